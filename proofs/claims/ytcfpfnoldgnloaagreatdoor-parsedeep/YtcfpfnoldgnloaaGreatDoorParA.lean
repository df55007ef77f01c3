/-
  The parser as plain functions over tokens: a tree and the tokens that are left, or the line of what can't stand where it does. Plain functions alone.
  The plain parser leaves less than it is given. Plain functions alone.
-/
import Derived.Test.YtcfpfnoldgnloaaGreatDoorTk
set_option linter.unusedVariables false
set_option linter.unusedSimpArgs false
namespace Go.Proofs.YtcfpfnoldgnloaaGreatDoor
set_option maxRecDepth 100000
set_option maxHeartbeats 4000000

abbrev PR (α : Type) := Except Int (α × List Tk)
def lineP (l : List Tk) : Int := (l.head?.map (·.line)).getD 0
def isP (s : Bs) (t : Tk) : Bool := (t.kind == 2 || t.kind == 4) && t.text == s
/-- take: what is left behind a word, or a sign, of this text. -/
def takeP (s : Bs) : List Tk → Option (List Tk)
  | [] => none
  | t :: r => if isP s t = true then some r else none
def ywantP (s : Bs) (l : List Tk) : Except Int (List Tk) := match takeP s l with
  | some r => .ok r
  | none => .error (lineP l)
def kindP (k : Int) : List Tk → PR Tk
  | [] => .error 0
  | t :: r => if t.kind = k then .ok (t, r) else .error t.line
def nameP (l : List Tk) : PR Bs := match kindP 1 l with
  | .ok (t, r) => .ok (t.text, r)
  | .error e => .error e
def unaryP (l : List Tk) : Option (Int × List Tk) :=
  match takeP (signOf 17) l with
  | some r => some (17, r)
  | none => match takeP (signOf 18) l with
    | some r => some (18, r)
    | none => match takeP (signOf 19) l with
      | some r => some (19, r)
      | none => none
/-- The operator of two that is next, if it binds at least so strongly; 0: none. -/
def binaryP (lv : Int) (l : List Tk) : Int := match l with
  | [] => 0
  | t :: _ => ((((List.range 16).map fun i : Nat => (i : Int) + 1).find? fun op => isP (signOf op) t && decide (lv ≤ levelOf op))).getD 0
mutual
/-- climb: an expression whose operators bind at least so strongly. -/
def climbP : Nat → Int → List Tk → PR Ex
  | 0, _, l => .error (lineP l)
  | f + 1, lv, l => match tightP f l with
    | .error e => .error e
    | .ok (x, r) => loopP f lv x r
def loopP : Nat → Int → Ex → List Tk → PR Ex
  | 0, _, _, l => .error (lineP l)
  | f + 1, lv, x, l => if binaryP lv l = 0 then .ok (x, l) else
    match climbP f (levelOf (binaryP lv l) + 1) (l.drop 1) with
    | .error e => .error e
    | .ok (y, r) => loopP f lv (.mk 4 (binaryP lv l) 0 [] [x, y]) r
def tightP : Nat → List Tk → PR Ex
  | 0, l => .error (lineP l)
  | f + 1, l => match unaryP l with
    | some (op, r) => (match tightP f r with
      | .error e => .error e
      | .ok (x, r) => .ok (.mk 3 op 0 [] [x], r))
    | none => match takeP [40] l with
      | some r => (match climbP f 1 r with
        | .error e => .error e
        | .ok (x, r) => match ywantP [41] r with
          | .error e => .error e
          | .ok r => .ok (x, r))
      | none => match takeP [114, 101, 97, 100] l with
        | some r => (match ywantP [40] r with
          | .error e => .error e
          | .ok r => match ywantP [41] r with
            | .error e => .error e
            | .ok r => .ok (.mk 7 0 0 [] [], r))
        | none => match l with
          | [] => .error 0
          | t :: r => if t.kind = 3 then .ok (.mk 1 0 t.num [] [], r) else
            if t.kind = 1 then namedP f t.text r else .error t.line
/-- named: what stands behind a name. -/
def namedP : Nat → Bs → List Tk → PR Ex
  | 0, _, l => .error (lineP l)
  | f + 1, s, l => match takeP [40] l with
    | some r => (match argsP f r with
      | .error e => .error e
      | .ok (a, r) => .ok (.mk 5 0 0 s a, r))
    | none => match takeP [91] l with
      | some r => (match climbP f 1 r with
        | .error e => .error e
        | .ok (x, r) => match ywantP [93] r with
          | .error e => .error e
          | .ok r => .ok (.mk 6 0 0 s [x], r))
      | none => .ok (.mk 2 0 0 s [], l)
/-- args: a call's parts, up to the parenthesis. -/
def argsP : Nat → List Tk → PR (List Ex)
  | 0, l => .error (lineP l)
  | f + 1, l => match takeP [41] l with
    | some r => .ok ([], r)
    | none => moreP f [] l
def moreP : Nat → List Ex → List Tk → PR (List Ex)
  | 0, _, l => .error (lineP l)
  | f + 1, a, l => match climbP f 1 l with
    | .error e => .error e
    | .ok (x, r) => match takeP [44] r with
      | some r => moreP f (a ++ [x]) r
      | none => match ywantP [41] r with
        | .error e => .error e
        | .ok r => .ok (a ++ [x], r)
end
/-- inside: an expression in parentheses. -/
def insideP (f : Nat) (l : List Tk) : PR Ex := match ywantP [40] l with
  | .error e => .error e
  | .ok r => match climbP f 1 r with
    | .error e => .error e
    | .ok (x, r) => match ywantP [41] r with
      | .error e => .error e
      | .ok r => .ok (x, r)
/-- simple: a statement that has no others in it, but for its end. -/
def simpleP (f : Nat) (l : List Tk) : PR St :=
  match takeP [98, 114, 101, 97, 107] l with
  | some r => .ok (.mk 5 [] [] [] [], r)
  | none => match takeP [99, 111, 110, 116, 105, 110, 117, 101] l with
  | some r => .ok (.mk 6 [] [] [] [], r)
  | none => match takeP [114, 101, 116, 117, 114, 110] l with
  | some r => (match climbP f 1 r with
    | .error e => .error e
    | .ok (x, r) => .ok (.mk 7 [] [x] [] [], r))
  | none => match takeP [112, 114, 105, 110, 116] l with
  | some r => (match insideP f r with
    | .error e => .error e
    | .ok (x, r) => .ok (.mk 8 [] [x] [] [], r))
  | none => match takeP [116, 114, 97, 112] l with
  | some r => (match insideP f r with
    | .error e => .error e
    | .ok (x, r) => .ok (.mk 9 [] [x] [] [], r))
  | none => match nameP l with
  | .error e => .error e
  | .ok (s, l) => match takeP [40] l with
  | some r => (match argsP f r with
    | .error e => .error e
    | .ok (a, r) => .ok (.mk 10 [] [.mk 5 0 0 s a] [] [], r))
  | none => match takeP [91] l with
  | some r => (match climbP f 1 r with
    | .error e => .error e
    | .ok (x, r) => match ywantP [93] r with
      | .error e => .error e
      | .ok r => match ywantP [61] r with
        | .error e => .error e
        | .ok r => match climbP f 1 r with
          | .error e => .error e
          | .ok (y, r) => .ok (.mk 2 s [x, y] [] [], r))
  | none => match ywantP [61] l with
    | .error e => .error e
    | .ok r => match climbP f 1 r with
      | .error e => .error e
      | .ok (x, r) => .ok (.mk 1 s [x] [] [], r)
mutual
/-- stmt, and stmts up to a brace. -/
def stmtP : Nat → List Tk → PR St
  | 0, l => .error (lineP l)
  | f + 1, l => match takeP [105, 102] l with
    | some r => (match insideP f r with
      | .error e => .error e
      | .ok (x, r) => match ywantP [123] r with
        | .error e => .error e
        | .ok r => match stmtsP f [] r with
          | .error e => .error e
          | .ok (a, r) => match takeP [101, 108, 115, 101] r with
            | none => .ok (.mk 3 [] [x] a [], r)
            | some r => match ywantP [123] r with
              | .error e => .error e
              | .ok r => match stmtsP f [] r with
                | .error e => .error e
                | .ok (b, r) => .ok (.mk 3 [] [x] a b, r))
    | none => match takeP [119, 104, 105, 108, 101] l with
    | some r => (match insideP f r with
      | .error e => .error e
      | .ok (x, r) => match ywantP [123] r with
        | .error e => .error e
        | .ok r => match stmtsP f [] r with
          | .error e => .error e
          | .ok (a, r) => .ok (.mk 4 [] [x] a [], r))
    | none => match simpleP f l with
      | .error e => .error e
      | .ok (x, r) => match ywantP [59] r with
        | .error e => .error e
        | .ok r => .ok (x, r)
def stmtsP : Nat → List St → List Tk → PR (List St)
  | 0, _, l => .error (lineP l)
  | f + 1, a, l => match takeP [125] l with
    | some r => .ok (a, r)
    | none => match stmtP f l with
      | .error e => .error e
      | .ok (x, r) => stmtsP f (a ++ [x]) r
end
/-- A function's parameters: int and a name, with commas between. -/
def parsP : Nat → List Bs → List Tk → PR (List Bs)
  | 0, _, l => .error (lineP l)
  | f + 1, a, l => match ywantP [105, 110, 116] l with
    | .error e => .error e
    | .ok r => match nameP r with
      | .error e => .error e
      | .ok (s, r) => match takeP [44] r with
        | some r => parsP f (a ++ [s]) r
        | none => match ywantP [41] r with
          | .error e => .error e
          | .ok r => .ok (a ++ [s], r)
def localsP : Nat → List Bs → List Tk → PR (List Bs)
  | 0, _, l => .error (lineP l)
  | f + 1, a, l => match takeP [105, 110, 116] l with
    | none => .ok (a, l)
    | some r => match nameP r with
      | .error e => .error e
      | .ok (s, r) => match ywantP [59] r with
        | .error e => .error e
        | .ok r => localsP f (a ++ [s]) r
def functionP (f : Nat) (s : Bs) (l : List Tk) : PR Fu :=
  match (match takeP [41] l with | some r => (.ok ([], r) : PR (List Bs)) | none => parsP f [] l) with
  | .error e => .error e
  | .ok (ps, r) => match ywantP [123] r with
    | .error e => .error e
    | .ok r => match localsP f [] r with
      | .error e => .error e
      | .ok (ls, r) => match stmtsP f [] r with
        | .error e => .error e
        | .ok (b, r) => .ok (⟨s, ps, ls, b⟩, r)
/-- prog: up to the end. -/
def progP : Nat → Pr → List Tk → PR Pr
  | 0, _, l => .error (lineP l)
  | f + 1, p, l => if (l.head?.map (·.kind)).getD 0 = 5 then .ok (p, l) else
    match ywantP [105, 110, 116] l with
    | .error e => .error e
    | .ok r => match nameP r with
      | .error e => .error e
      | .ok (s, r) => match (if p.funcs.isEmpty = true then takeP [91] r else none) with
        | some r => (match kindP 3 r with
          | .error e => .error e
          | .ok (t, r) => match ywantP [93] r with
            | .error e => .error e
            | .ok r => match ywantP [59] r with
              | .error e => .error e
              | .ok r => progP f { p with arrays := p.arrays ++ [⟨s, t.num⟩] } r)
        | none => match ywantP [40] r with
          | .error e => .error e
          | .ok r => match functionP f s r with
            | .error e => .error e
            | .ok (x, r) => progP f { p with funcs := p.funcs ++ [x] } r
end Go.Proofs.YtcfpfnoldgnloaaGreatDoor

namespace Go.Proofs.YtcfpfnoldgnloaaGreatDoor
set_option maxRecDepth 100000
set_option maxHeartbeats 4000000

theorem take_yes {s : Bs} {t : Tk} {r : List Tk} (h : isP s t = true) : takeP s (t :: r) = some r := by
  show (if isP s t = true then some r else none) = some r
  rw [if_pos h]
theorem take_no {s : Bs} {t : Tk} {r : List Tk} (h : isP s t = false) : takeP s (t :: r) = none := by
  show (if isP s t = true then some r else none) = none
  rw [if_neg (by rw [h]; decide)]
theorem want_yes {s : Bs} {t : Tk} {r : List Tk} (h : isP s t = true) : ywantP s (t :: r) = .ok r := by
  unfold ywantP; rw [take_yes h]
theorem take_less {s : Bs} {l r : List Tk} (h : takeP s l = some r) : r.length < l.length := by
  cases l with
  | nil => cases h
  | cons t l =>
    have h : (if isP s t = true then some l else none) = some r := h
    split at h
    · injection h with h; subst h; simp
    · cases h
theorem want_less {s : Bs} {l r : List Tk} (h : ywantP s l = .ok r) : r.length < l.length := by
  unfold ywantP at h
  cases ht : takeP s l with
  | none => rw [ht] at h; cases h
  | some q => rw [ht] at h; injection h with h; subst h; exact take_less ht
theorem kind_less {k : Int} {l r : List Tk} {t : Tk} (h : kindP k l = .ok (t, r)) : r.length < l.length := by
  cases l with
  | nil => cases h
  | cons u l =>
    have h : (if u.kind = k then Except.ok (u, l) else Except.error u.line) = .ok (t, r) := h
    split at h
    · injection h with h; injection h with h1 h2; subst h2; simp
    · cases h
theorem name_less {l r : List Tk} {s : Bs} (h : nameP l = .ok (s, r)) : r.length < l.length := by
  unfold nameP at h
  cases hk : kindP 1 l with
  | error e => rw [hk] at h; cases h
  | ok q =>
    obtain ⟨t, q⟩ := q
    rw [hk] at h
    injection h with h; injection h with h1 h2; subst h2
    exact kind_less hk
theorem unary_less {l r : List Tk} {op : Int} (h : unaryP l = some (op, r)) : r.length < l.length := by
  unfold unaryP at h
  cases h1 : takeP (signOf 17) l with
  | some q => rw [h1] at h; injection h with h; injection h with _ h; subst h; exact take_less h1
  | none =>
    rw [h1] at h
    dsimp only at h
    cases h2 : takeP (signOf 18) l with
    | some q => rw [h2] at h; injection h with h; injection h with _ h; subst h; exact take_less h2
    | none =>
      rw [h2] at h
      dsimp only at h
      cases h3 : takeP (signOf 19) l with
      | some q => rw [h3] at h; injection h with h; injection h with _ h; subst h; exact take_less h3
      | none => rw [h3] at h; cases h
theorem parse_less : ∀ f : Nat,
    (∀ lv l x r, climbP f lv l = .ok (x, r) → r.length < l.length) ∧ (∀ lv y l x r, loopP f lv y l = .ok (x, r) → r.length ≤ l.length) ∧ (∀ l x r, tightP f l = .ok (x, r) → r.length < l.length) ∧
    (∀ s l x r, namedP f s l = .ok (x, r) → r.length ≤ l.length) ∧ (∀ l x r, argsP f l = .ok (x, r) → r.length < l.length) ∧ (∀ a l x r, moreP f a l = .ok (x, r) → r.length < l.length)
  | 0 => ⟨fun lv l x r h => (by cases h), fun lv y l x r h => (by cases h), fun l x r h => (by cases h), fun s l x r h => (by cases h), fun l x r h => (by cases h), fun a l x r h => (by cases h)⟩
  | f + 1 => by
    obtain ⟨ic, il, it, inm, ia, im⟩ := parse_less f
    refine ⟨?_, ?_, ?_, ?_, ?_, ?_⟩
    · intro lv l x r h
      unfold climbP at h
      cases ht : tightP f l with
      | error e => rw [ht] at h; cases h
      | ok q =>
        obtain ⟨y, q⟩ := q
        rw [ht] at h
        have h1 := it _ _ _ ht
        have h2 := il _ _ _ _ _ h
        omega
    · intro lv y l x r h
      unfold loopP at h
      split at h
      · injection h with h; injection h with _ h; subst h; exact Nat.le_refl _
      · cases hc : climbP f (levelOf (binaryP lv l) + 1) (l.drop 1) with
        | error e => rw [hc] at h; cases h
        | ok q =>
          obtain ⟨z, q⟩ := q
          rw [hc] at h
          have h1 := ic _ _ _ _ hc
          have h2 := il _ _ _ _ _ h
          rw [List.length_drop] at h1
          omega
    · intro l x r h
      unfold tightP at h
      cases hu : unaryP l with
      | some q =>
        obtain ⟨op, q⟩ := q
        rw [hu] at h
        dsimp only at h
        have h0 := unary_less hu
        cases ht : tightP f q with
        | error e => rw [ht] at h; cases h
        | ok z =>
          obtain ⟨y, z⟩ := z
          rw [ht] at h
          injection h with h; injection h with _ h; subst h
          have := it _ _ _ ht; omega
      | none =>
        rw [hu] at h
        dsimp only at h
        cases h1 : takeP [40] l with
        | some q =>
          rw [h1] at h
          dsimp only at h
          have h0 := take_less h1
          cases hc : climbP f 1 q with
          | error e => rw [hc] at h; cases h
          | ok z =>
            obtain ⟨y, z⟩ := z
            rw [hc] at h
            dsimp only at h
            have h2 := ic _ _ _ _ hc
            cases hw : ywantP [41] z with
            | error e => rw [hw] at h; cases h
            | ok v =>
              rw [hw] at h
              injection h with h; injection h with _ h; subst h
              have := want_less hw; omega
        | none =>
          rw [h1] at h
          dsimp only at h
          cases h2 : takeP [114, 101, 97, 100] l with
          | some q =>
            rw [h2] at h
            dsimp only at h
            have h0 := take_less h2
            cases hw : ywantP [40] q with
            | error e => rw [hw] at h; cases h
            | ok v =>
              rw [hw] at h
              dsimp only at h
              have h3 := want_less hw
              cases hz : ywantP [41] v with
              | error e => rw [hz] at h; cases h
              | ok z =>
                rw [hz] at h
                injection h with h; injection h with _ h; subst h
                have := want_less hz; omega
          | none =>
            rw [h2] at h
            dsimp only at h
            cases l with
            | nil => cases h
            | cons t l =>
              dsimp only at h
              split at h
              · injection h with h; injection h with _ h; subst h; simp
              · split at h
                · have := inm _ _ _ _ h; simp; omega
                · cases h
    · intro s l x r h
      unfold namedP at h
      cases h1 : takeP [40] l with
      | some q =>
        rw [h1] at h
        dsimp only at h
        have h0 := take_less h1
        cases ha : argsP f q with
        | error e => rw [ha] at h; cases h
        | ok z =>
          obtain ⟨y, z⟩ := z
          rw [ha] at h
          injection h with h; injection h with _ h; subst h
          have := ia _ _ _ ha; omega
      | none =>
        rw [h1] at h
        dsimp only at h
        cases h2 : takeP [91] l with
        | some q =>
          rw [h2] at h
          dsimp only at h
          have h0 := take_less h2
          cases hc : climbP f 1 q with
          | error e => rw [hc] at h; cases h
          | ok z =>
            obtain ⟨y, z⟩ := z
            rw [hc] at h
            dsimp only at h
            have h3 := ic _ _ _ _ hc
            cases hw : ywantP [93] z with
            | error e => rw [hw] at h; cases h
            | ok v =>
              rw [hw] at h
              injection h with h; injection h with _ h; subst h
              have := want_less hw; omega
        | none =>
          rw [h2] at h
          injection h with h; injection h with _ h; subst h; exact Nat.le_refl _
    · intro l x r h
      unfold argsP at h
      cases h1 : takeP [41] l with
      | some q =>
        rw [h1] at h
        injection h with h; injection h with _ h; subst h
        exact take_less h1
      | none => rw [h1] at h; exact im _ _ _ _ h
    · intro a l x r h
      unfold moreP at h
      cases hc : climbP f 1 l with
      | error e => rw [hc] at h; cases h
      | ok z =>
        obtain ⟨y, z⟩ := z
        rw [hc] at h
        dsimp only at h
        have h3 := ic _ _ _ _ hc
        cases h2 : takeP [44] z with
        | some q =>
          rw [h2] at h
          have h0 := take_less h2
          have := im _ _ _ _ h; omega
        | none =>
          rw [h2] at h
          dsimp only at h
          cases hw : ywantP [41] z with
          | error e => rw [hw] at h; cases h
          | ok v =>
            rw [hw] at h
            injection h with h; injection h with _ h; subst h
            have := want_less hw; omega
end Go.Proofs.YtcfpfnoldgnloaaGreatDoor
