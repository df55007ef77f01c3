/-
  Code as plain data: which may be, its text, what a text is read as, what it is laid flat. Plain functions alone.
  Code that may be, of raw lines: what it is, and that it may be. Plain functions alone.
  Parse undoes Print of code; blanks, comments and empty lines make no difference. Plain functions alone.
-/
import Derived.Lib.SlTrimSet
import Derived.Lib.Small
import Derived.Lib.Split
import Derived.Test.YtlkfmnabbmceeaaGreatDoorInstrA
import Derived.Test.YtlkfmnabbmceeaaGreatDoorTreeA
import Derived.Test.YtlkfmnabbmceeaaGreatDoorInstrF
set_option linter.unusedVariables false
set_option linter.unusedSimpArgs false
namespace Go.Proofs.YtlkfmnabbmceeaaGreatDoor
set_option maxRecDepth 100000
set_option maxHeartbeats 4000000

/-- A line: a label, or an instruction. -/
structure Ln where
  label : Bs
  ins : Ins
structure Cd where
  arrs : List Ar
  lines : List Ln
/-- A label's place: the first line that bears it. -/
def place (l : List Ln) (s : Bs) : Option Nat := if s = [] then none else l.findIdx? (fun x => x.label == s)
def placeI (l : List Ln) (s : Bs) : Int := ((place l s).getD 0 : Nat)
def arrBad (a : Ar) : Bool := !labelB a.name || (decide (a.size < 1) || decide (1048576 < a.size))
/-- May the arrays be? -/
def arrsE (l : List Ar) : Int := if l.any arrBad = true then 1 else if (l.map (·.name)).Nodup then 0 else 61
def wellB (x : Ln) : Bool := if x.label = [] then rightI x.ins else labelB x.label && insEq x.ins (zeroI 0)
def knownB (c : Cd) (x : Ins) : Bool := if x.op = 17 then c.arrs.any (fun a => a.name == x.name) else (place c.lines x.name).isSome || x.name == []
/-- What is wrong with a line; 0: nothing. -/
def lineE (c : Cd) (i : Nat) (x : Ln) : Int := if wellB x = false then 60 else if (x.label ≠ [] ∧ placeI c.lines x.label < i) ∨ knownB c x.ins = false then 61 else 0
def checkL (c : Cd) : Nat → List Ln → Int × Int
  | _, [] => (0, 0)
  | i, x :: l => if lineE c i x = 0 then checkL c (i + 1) l else (lineE c i x, (i : Nat))
def checkC (c : Cd) : Int × Int := if 40000 < c.lines.length then (1, 0) else if arrsE c.arrs ≠ 0 then (arrsE c.arrs, 0) else checkL c 0 c.lines
def arrT (a : Ar) : Bs := [46, 97, 114, 114, 97, 121, 32] ++ (a.name ++ (32 :: (Lib.itoa a.size ++ [10])))
def lineT (x : Ln) : Bs := if x.label ≠ [] then x.label ++ [58, 10] else 9 :: (textI x.ins ++ [10])
def codeT (c : Cd) : Bs := c.arrs.flatMap arrT ++ c.lines.flatMap lineT
def printC (c : Cd) : Bs × Int := if (checkC c).1 = 0 then (codeT c, 0) else ([], 1)
/-- A text's lines. -/
def linesG : Bs → Bs → List Bs
  | cur, [] => [cur]
  | cur, c :: l => if c = 10 then cur :: linesG [] l else linesG (cur ++ [c]) l
def bareA (s : Bs) : Bs := Lib.trimS (Lib.cut s [35]).1 [32, 9]
def numA (t : Bs) : Option Int := match Lib.atoiAll t with | .ok v => if Lib.itoa v = t then some v else none | _ => none
def arrayA (s : Bs) : Option Ar :=
  if Lib.hasPrefix s [46, 97, 114, 114, 97, 121, 32] = true then
    match numA (Lib.cut (s.drop 7) [32]).2.1 with
    | some n => if arrsE [⟨(Lib.cut (s.drop 7) [32]).1, n⟩] = 0 then some ⟨(Lib.cut (s.drop 7) [32]).1, n⟩ else none
    | none => none
  else none
def lineA (s : Bs) : Ln × Bool :=
  if Lib.hasSuffix s [58] = true then (⟨s.take (s.length - 1), zeroI 0⟩, labelB (s.take (s.length - 1)))
  else match parseI s with
  | some x => (⟨[], x⟩, true)
  | none => (⟨[], zeroI 0⟩, false)
structure Src where
  arrs : List Ar
  lines : List Ln
  wh : List Int
def takeA (x : Src) (s : Bs) (n : Int) : Option Src :=
  if s = [] then some x else
  if (arrayA s).isSome = true ∧ x.lines = [] then (arrayA s).map fun a => { x with arrs := x.arrs ++ [a] } else
  if (lineA s).2 = true then some { x with lines := x.lines ++ [(lineA s).1], wh := x.wh ++ [n] } else none
def takesA : Src → Int → List Bs → Src ⊕ Int
  | x, _, [] => .inl x
  | x, i, t :: ts => match takeA x (bareA t) (i + 1) with
    | none => .inr (i + 1)
    | some x' => takesA x' (i + 1) ts
def cd0 : Cd := ⟨[], []⟩
def endA (x : Src) : Cd × Int × Int :=
  if (checkC ⟨x.arrs, x.lines⟩).1 = 0 then (⟨x.arrs, x.lines⟩, 0, 0)
  else if arrsE x.arrs ≠ 0 ∨ (x.wh.length : Int) ≤ (checkC ⟨x.arrs, x.lines⟩).2 ∨ (checkC ⟨x.arrs, x.lines⟩).1 = 1 then (cd0, (checkC ⟨x.arrs, x.lines⟩).1, 1)
  else (cd0, (checkC ⟨x.arrs, x.lines⟩).1, x.wh.getD (checkC ⟨x.arrs, x.lines⟩).2.toNat 0)
def parseA (s : Bs) : Cd × Int × Int :=
  if 400000 < s.length then (cd0, 1, 0) else
  match takesA ⟨[], [], []⟩ 0 (linesG [] s) with
  | .inr n => (cd0, 60, n)
  | .inl x => endA x
/-- How many instructions there are ahead of a line. -/
def aheadN (l : List Ln) (k : Nat) : Nat := ((l.take k).filter (fun x => x.label == [])).length
def toA (c : Cd) (x : Ins) : Int := if x.op ≠ 17 ∧ x.name ≠ [] then (aheadN c.lines ((place c.lines x.name).getD 0) : Nat) else -1
def insL (l : List Ln) : List Ins := (l.filter (fun x => x.label == [])).map (·.ins)
def flatA (c : Cd) : List Ins × List Int := if (checkC c).1 = 0 then (insL c.lines, (insL c.lines).map (toA c)) else ([], [])

/-! ### Places -/
theorem place_nil (l : List Ln) : place l [] = none := rfl
theorem place_snoc (l : List Ln) (x : Ln) (s : Bs) : place (l ++ [x]) s = (if s ≠ [] ∧ place l s = none ∧ x.label = s then some l.length else place l s) := by
  unfold place
  by_cases hs : s = []
  · simp [hs]
  · rw [if_neg hs, if_neg hs, List.findIdx?_append]
    cases h : l.findIdx? (fun x => x.label == s) with
    | some i => simp
    | none =>
      by_cases hx : x.label = s
      · simp [hx, hs]
      · simp [hx, hs]
theorem place_some {l : List Ln} {s : Bs} {i : Nat} (h : place l s = some i) : s ≠ [] ∧ ∃ hi : i < l.length, l[i].label = s ∧ ∀ j (hj : j < i), l[j].label ≠ s := by
  unfold place at h
  by_cases hs : s = []
  · simp [hs] at h
  · rw [if_neg hs, List.findIdx?_eq_some_iff_getElem] at h
    obtain ⟨h1, h2, h3⟩ := h
    exact ⟨hs, h1, by simpa using h2, fun j hj => by simpa using h3 j hj⟩
theorem place_of {l : List Ln} {s : Bs} {i : Nat} (hs : s ≠ []) (hi : i < l.length) (h : l[i].label = s) (hj : ∀ j (hj : j < i), l[j].label ≠ s) : place l s = some i := by
  unfold place
  rw [if_neg hs, List.findIdx?_eq_some_iff_getElem]
  exact ⟨hi, by simpa using h, fun j hj' => by simpa using hj j hj'⟩
theorem place_none {l : List Ln} {s : Bs} (hs : s ≠ []) : place l s = none ↔ ∀ x, x ∈ l → x.label ≠ s := by
  unfold place
  rw [if_neg hs, List.findIdx?_eq_none_iff]
  simp
theorem place_app {l m : List Ln} {s : Bs} {i : Nat} (h : place l s = some i) : place (l ++ m) s = some i := by
  obtain ⟨h1, h2, h3, h4⟩ := place_some h
  refine place_of h1 (by simp; omega) ?_ ?_
  · rw [List.getElem_append_left h2]; exact h3
  · intro j hj
    rw [List.getElem_append_left (by omega)]; exact h4 j hj
theorem checkL_ok (c : Cd) : ∀ (l : List Ln) (i : Nat), (∀ j (hj : j < l.length), lineE c (i + j) l[j] = 0) → checkL c i l = (0, 0)
  | [], _, _ => rfl
  | x :: l, i, h => by
    have h0 : lineE c i x = 0 := h 0 (by simp)
    unfold checkL
    rw [if_pos h0]
    refine checkL_ok c l (i + 1) fun j hj => ?_
    have := h (j + 1) (by simp; omega)
    rw [show i + 1 + j = i + (j + 1) by omega]
    simpa using this
theorem lineE_vals (c : Cd) (i : Nat) (x : Ln) : lineE c i x = 0 ∨ lineE c i x = 60 ∨ lineE c i x = 61 := by
  unfold lineE; split
  · exact .inr (.inl rfl)
  · split
    · exact .inr (.inr rfl)
    · exact .inl rfl
theorem checkL_at (c : Cd) : ∀ (l : List Ln) (i j : Nat) (hj : j < l.length), (∀ k (hk : k < j), lineE c (i + k) l[k] = 0) → lineE c (i + j) l[j] ≠ 0 → checkL c i l = (lineE c (i + j) l[j], ((i + j : Nat) : Int))
  | [], i, j, hj, _, _ => by simp at hj
  | x :: l, i, 0, hj, _, h => by
    have h : lineE c i x ≠ 0 := h
    unfold checkL
    rw [if_neg h]; rfl
  | x :: l, i, j + 1, hj, hk, h => by
    have h0 : lineE c i x = 0 := hk 0 (by omega)
    unfold checkL
    rw [if_pos h0]
    have e : i + 1 + j = i + (j + 1) := by omega
    have := checkL_at c l (i + 1) j (by simpa using hj) (fun k hk' => by
      have := hk (k + 1) (by omega)
      rw [show i + 1 + k = i + (k + 1) by omega]; simpa using this) (by rw [e]; simpa using h)
    rw [this, e]; rfl
theorem checkL_open (c : Cd) : ∀ (l : List Ln) (i : Nat), (checkL c i l).1 = 0 → ∀ j (hj : j < l.length), lineE c (i + j) l[j] = 0
  | [], i, _, j, hj => by simp at hj
  | x :: l, i, h, j, hj => by
    unfold checkL at h
    by_cases h0 : lineE c i x = 0
    · rw [if_pos h0] at h
      cases j with
      | zero => exact h0
      | succ j =>
        have := checkL_open c l (i + 1) h j (by simpa using hj)
        rw [show i + (j + 1) = i + 1 + j by omega]; simpa using this
    · rw [if_neg h0] at h
      exact absurd h h0
theorem checkC_open {c : Cd} (h : (checkC c).1 = 0) : c.lines.length ≤ 40000 ∧ arrsE c.arrs = 0 ∧ ∀ j (hj : j < c.lines.length), lineE c j c.lines[j] = 0 := by
  unfold checkC at h
  by_cases h1 : 40000 < c.lines.length
  · rw [if_pos h1] at h; cases h
  · rw [if_neg h1] at h
    by_cases h2 : arrsE c.arrs ≠ 0
    · rw [if_pos h2] at h; exact absurd h h2
    · rw [if_neg h2] at h
      refine ⟨by omega, by simpa using h2, fun j hj => ?_⟩
      have := checkL_open c c.lines 0 h j hj
      simpa using this
theorem checkC_ok {c : Cd} (h1 : c.lines.length ≤ 40000) (h2 : arrsE c.arrs = 0) (h3 : ∀ j (hj : j < c.lines.length), lineE c j c.lines[j] = 0) : checkC c = (0, 0) := by
  unfold checkC
  rw [if_neg (by omega), if_neg (by simp [h2])]
  exact checkL_ok c c.lines 0 (fun j hj => by simpa using h3 j hj)
theorem checkC_at {c : Cd} (h1 : c.lines.length ≤ 40000) (h2 : arrsE c.arrs = 0) (j : Nat) (hj : j < c.lines.length) (h3 : ∀ k (hk : k < j), lineE c k c.lines[k] = 0) (h4 : lineE c j c.lines[j] ≠ 0) : checkC c = (lineE c j c.lines[j], (j : Int)) := by
  unfold checkC
  rw [if_neg (by omega), if_neg (by simp [h2])]
  have := checkL_at c c.lines 0 j hj (fun k hk => by simpa using h3 k hk) (by simpa using h4)
  simpa using this
theorem lineE_zero {c : Cd} {i : Nat} {x : Ln} : lineE c i x = 0 ↔ wellB x = true ∧ (x.label ≠ [] → (i : Int) ≤ placeI c.lines x.label) ∧ knownB c x.ins = true := by
  unfold lineE
  cases wellB x
  · simp
  · rw [if_neg (by decide)]
    by_cases h : (x.label ≠ [] ∧ placeI c.lines x.label < i) ∨ knownB c x.ins = false
    · rw [if_pos h]
      simp only [true_and]
      constructor
      · intro h'; cases h'
      · rintro ⟨h1, h2⟩
        rcases h with ⟨h, h'⟩ | h
        · have := h1 h; omega
        · rw [h2] at h; cases h
    · rw [if_neg h]
      simp only [true_and, true_iff]
      refine ⟨fun hl => ?_, ?_⟩
      · rcases Int.lt_or_le (placeI c.lines x.label) i with h' | h'
        · exact absurd (Or.inl ⟨hl, h'⟩) h
        · exact h'
      · cases hk : knownB c x.ins
        · exact absurd (Or.inr hk) h
        · rfl
end Go.Proofs.YtlkfmnabbmceeaaGreatDoor

namespace Go.Proofs.YtlkfmnabbmceeaaGreatDoor
set_option maxRecDepth 100000
set_option maxHeartbeats 4000000

abbrev LnSt := List Bs × List Ln
def fitStep (st : LnSt) (x : Ln) : LnSt :=
  if x.label.length % 3 = 1 then
    if st.1.contains (iname x.ins.n) = true then st else (st.1 ++ [iname x.ins.n], st.2 ++ [⟨iname x.ins.n, zeroI 0⟩])
  else (st.1, st.2 ++ [⟨[], fitI x.ins⟩])
def fitFold (raw : List Ln) : LnSt := (raw.take 40).foldl fitStep ([], [])
def mainB : Bs := [109, 97, 105, 110]
def fitMain (st : LnSt) : LnSt := if st.1 = [] then ([mainB], st.2 ++ [⟨mainB, zeroI 0⟩]) else st
def arrs2 : List Ar := [⟨[97], 4⟩, ⟨[98], 10⟩]
def arrN (s : Bs) : Bs := if s.length % 2 = 0 then [97] else [98]
def nameIn (names : List Bs) (i : Nat) (x : Ins) : Ins :=
  if x.op = 17 then { x with name := arrN x.name }
  else if x.name ≠ [] then { x with name := names.getD ((x.name.length + i) % names.length) [] }
  else x
def nameLn (names : List Bs) (i : Nat) (x : Ln) : Ln := ⟨x.label, nameIn names i x.ins⟩
def fitC (raw : List Ln) : Cd := ⟨arrs2, (fitMain (fitFold raw)).2.mapIdx (nameLn (fitMain (fitFold raw)).1)⟩
/-- Of each line that a step makes. -/
structure StOk (st : LnSt) (k : Nat) : Prop where
  names : st.1 = (st.2.map (·.label)).filter (fun s => s != [])
  nodup : st.1.Nodup
  lab : ∀ s, s ∈ st.1 → ∃ n, s = iname n
  each : ∀ x, x ∈ st.2 → (x.label = [] ∧ ∃ y, x.ins = fitI y ∧ -9223372036854775808 ≤ y.n ∧ y.n ≤ 9223372036854775807) ∨ (x.label ≠ [] ∧ x.ins = zeroI 0)
  len : st.2.length ≤ k
theorem iname_ne (n : Int) : iname n ≠ [] := (label_mem (iname_ok n)).1
theorem StOk.zero : StOk ([], []) 0 := ⟨rfl, List.nodup_nil, fun s h => (by cases h), fun x h => (by cases h), Nat.le_refl _⟩
theorem StOk.label {st : LnSt} {k : Nat} (h : StOk st k) (n : Int) (hn : st.1.contains (iname n) = false) : StOk (st.1 ++ [iname n], st.2 ++ [⟨iname n, zeroI 0⟩]) (k + 1) := by
  have hn' : iname n ∉ st.1 := by intro hm; rw [List.contains_iff_mem.2 hm] at hn; cases hn
  refine ⟨?_, ?_, ?_, ?_, by have := h.len; simp; omega⟩
  · have : (iname n != []) = true := by simpa using iname_ne n
    simp only [List.map_append, List.filter_append, List.map_cons, List.map_nil, List.filter_cons, List.filter_nil, this, if_true]
    rw [← h.names]
  · rw [List.nodup_append]
    refine ⟨h.nodup, by simp, ?_⟩
    intro a ha b hb e
    rw [List.mem_singleton.1 hb] at e
    exact hn' (e ▸ ha)
  · intro s hs
    rcases List.mem_append.1 hs with h' | h'
    · exact h.lab s h'
    · exact ⟨n, List.mem_singleton.1 h'⟩
  · intro x hx
    rcases List.mem_append.1 hx with h' | h'
    · exact h.each x h'
    · rw [List.mem_singleton.1 h']; exact .inr ⟨iname_ne n, rfl⟩
theorem StOk.step {st : LnSt} {k : Nat} (h : StOk st k) (x : Ln) (hx : -9223372036854775808 ≤ x.ins.n ∧ x.ins.n ≤ 9223372036854775807) : StOk (fitStep st x) (k + 1) := by
  unfold fitStep
  split
  · split
    · exact ⟨h.names, h.nodup, h.lab, h.each, Nat.le_succ_of_le h.len⟩
    · rename_i hc
      exact h.label _ (by simpa using hc)
  · refine ⟨?_, h.nodup, h.lab, ?_, by have := h.len; simp; omega⟩
    · simp only [List.map_append, List.filter_append, List.map_cons, List.map_nil]
      rw [h.names]; simp
    · intro z hz
      rcases List.mem_append.1 hz with h' | h'
      · exact h.each z h'
      · rw [List.mem_singleton.1 h']; exact .inl ⟨rfl, _, rfl, hx⟩
theorem StOk.fold : ∀ (l : List Ln) {st : LnSt} {k : Nat}, StOk st k → (∀ x, x ∈ l → -9223372036854775808 ≤ x.ins.n ∧ x.ins.n ≤ 9223372036854775807) → StOk (l.foldl fitStep st) (k + l.length)
  | [], st, k, h, _ => h
  | x :: l, st, k, h, hx => by
    have := StOk.fold l (h.step x (hx x List.mem_cons_self)) (fun y hy => hx y (List.mem_cons_of_mem _ hy))
    rw [List.length_cons, show k + (l.length + 1) = k + 1 + l.length by omega]; exact this
def RawL (l : List Ln) : Prop := ∀ x, x ∈ l → RawI x.ins
theorem StOk.of {raw : List Ln} (h : RawL raw) : StOk (fitFold raw) 40 := by
  have := StOk.fold (raw.take 40) StOk.zero (fun x hx => (h x (List.mem_of_mem_take hx)).n)
  refine ⟨this.names, this.nodup, this.lab, this.each, ?_⟩
  have h1 := this.len
  have h2 : (raw.take 40).length ≤ 40 := by rw [List.length_take]; omega
  unfold fitFold
  omega
theorem iname_zero : mainB = iname 0 := by decide
theorem StOk.main {raw : List Ln} (h : RawL raw) : StOk (fitMain (fitFold raw)) 41 ∧ (fitMain (fitFold raw)).1 ≠ [] := by
  have := StOk.of h
  unfold fitMain
  by_cases he : (fitFold raw).1 = []
  · rw [if_pos he]
    have h2 := this.label 0 (by rw [he]; rfl)
    rw [he, ← iname_zero] at h2
    exact ⟨h2, List.cons_ne_nil _ _⟩
  · rw [if_neg he]
    exact ⟨⟨this.names, this.nodup, this.lab, this.each, Nat.le_succ_of_le this.len⟩, he⟩
/-! ### Renamed, it stays right -/
theorem right_rename {x : Ins} (h : rightI x = true) (hn : x.name ≠ []) {s : Bs} (hs : labelB s = true) : rightI { x with name := s } = true := by
  obtain ⟨h1, h2, h3⟩ := right_open h
  obtain ⟨g1, g2⟩ := (foldR_spec x _ _ _).1 h1
  have h76 : (76 : UInt8) ∈ (rowI x.op).2 := by
    by_cases hm : (76 : UInt8) ∈ (rowI x.op).2
    · exact hm
    · have := congrArg Ins.name g2
      simp only [if_neg hm] at this
      exact absurd this hn
  refine right_of (w := (rowI x.op).1) (f := (rowI x.op).2) rfl h2 ?_ ?_ ⟨fun _ => hs, fun _ => h76⟩
  · intro c hc h7 v hv
    refine g1 c hc h7 v ?_
    rw [← hv]; rfl
  · have e := g2
    obtain ⟨o, d, a, b, n, nm⟩ := x
    simp only [zeroI, Ins.mk.injEq] at e ⊢
    exact ⟨trivial, e.2.1, e.2.2.1, e.2.2.2.1, e.2.2.2.2.1, by rw [if_pos h76]⟩
theorem fitI_name (y : Ins) : (fitI y).name = [] ∨ ∃ n, (fitI y).name = iname n := by
  unfold fitI
  dsimp only
  repeat' split
  all_goals first
    | exact .inl rfl
    | exact .inr ⟨_, rfl⟩
theorem fitI_la (y : Ins) (h : (fitI y).op = 17) : (fitI y).name ≠ [] := by
  unfold fitI at h ⊢
  dsimp only at h ⊢
  repeat' split
  all_goals first
    | exact iname_ne _
    | skip
  all_goals (exfalso; revert h; repeat' split)
  all_goals (intro h; try simp only at h; omega)
theorem arrN_ok (s : Bs) : labelB (arrN s) = true ∧ arrs2.any (fun a => a.name == arrN s) = true := by
  unfold arrN
  split <;> exact ⟨by decide, by decide⟩
/-- Code that Fit makes. -/
structure GoodC (c : Cd) : Prop where
  arrs : c.arrs = arrs2
  len : c.lines.length ≤ 41
  line : ∀ j (hj : j < c.lines.length), (c.lines[j].label = [] ∧ rightI c.lines[j].ins = true ∧ FitsI c.lines[j].ins ∧ knownB c c.lines[j].ins = true) ∨ (c.lines[j].label ≠ [] ∧ c.lines[j].ins = zeroI 0 ∧ ∃ n, c.lines[j].label = iname n)
  uniq : ∀ i j (hi : i < c.lines.length) (hj : j < c.lines.length), i < j → c.lines[i].label = c.lines[j].label → c.lines[i].label = []
  has : ∃ j, ∃ hj : j < c.lines.length, c.lines[j].label ≠ []
theorem nodup_labels {l : List Ln} (h : ((l.map (·.label)).filter (fun s => s != [])).Nodup) : ∀ i j (hi : i < l.length) (hj : j < l.length), i < j → l[i].label = l[j].label → l[i].label = [] := by
  intro i j hi hj hij e
  unfold List.Nodup at h
  rw [List.pairwise_filter, List.pairwise_map, List.pairwise_iff_getElem] at h
  have := h i j hi hj hij
  by_cases h0 : l[i].label = []
  · exact h0
  · exact absurd e (this (by simpa using h0) (by rw [← e]; simpa using h0))
theorem fitC_good {raw : List Ln} (h : RawL raw) : GoodC (fitC raw) := by
  obtain ⟨st, hne⟩ := StOk.main h
  unfold fitC
  generalize fitMain (fitFold raw) = s at st hne
  obtain ⟨names, lines⟩ := s
  dsimp only at *
  have hn : names = (lines.map (·.label)).filter (fun s => s != []) := st.names
  have hnl : 0 < names.length := List.length_pos_iff.2 hne
  have hat : ∀ j (hj : j < (lines.mapIdx (nameLn names)).length), ∃ hj' : j < lines.length, (lines.mapIdx (nameLn names))[j] = nameLn names j lines[j] := fun j hj => ⟨by simpa using hj, by simp⟩
  have mem_place : ∀ s, s ∈ names → (place (lines.mapIdx (nameLn names)) s).isSome = true := by
    intro s hs
    rw [hn] at hs
    obtain ⟨h1, h2⟩ := List.mem_filter.1 hs
    have h2' : s ≠ [] := by simpa using h2
    cases hp : place (lines.mapIdx (nameLn names)) s with
    | some i => rfl
    | none =>
      exfalso
      obtain ⟨x, hx, rfl⟩ := List.mem_map.1 h1
      obtain ⟨i, hi, rfl⟩ := List.getElem_of_mem hx
      have hi2 : i < (lines.mapIdx (nameLn names)).length := by simpa using hi
      have := (place_none h2').1 hp (lines.mapIdx (nameLn names))[i] (List.getElem_mem hi2)
      apply this
      simp [nameLn]
  refine ⟨rfl, ?_, ?_, ?_, ?_⟩
  · have := st.len; simpa using this
  · intro j hj
    obtain ⟨hj', e⟩ := hat j hj
    rw [e]
    rcases st.each lines[j] (List.getElem_mem hj') with ⟨h1, y, h2, h3⟩ | ⟨h1, h2⟩
    · left
      refine ⟨h1, ?_⟩
      show rightI (nameIn names j lines[j].ins) = true ∧ FitsI (nameIn names j lines[j].ins) ∧ knownB _ (nameIn names j lines[j].ins) = true
      rw [h2]
      have hr := fit_right y
      have hf := fit_fits y h3
      unfold nameIn
      by_cases h17 : (fitI y).op = 17
      · rw [if_pos h17]
        obtain ⟨a1, a2⟩ := arrN_ok (fitI y).name
        refine ⟨right_rename hr (fitI_la y h17) a1, hf, ?_⟩
        unfold knownB
        rw [if_pos h17]
        exact a2
      · rw [if_neg h17]
        by_cases hnm : (fitI y).name = []
        · rw [if_neg (by simp [hnm])]
          refine ⟨hr, hf, ?_⟩
          unfold knownB
          rw [if_neg h17, hnm]; simp
        · rw [if_pos hnm]
          have hlt : ((fitI y).name.length + j) % names.length < names.length := Nat.mod_lt _ hnl
          have hm : names.getD (((fitI y).name.length + j) % names.length) [] ∈ names := by
            rw [List.getD_eq_getElem?_getD, List.getElem?_eq_getElem hlt]; exact List.getElem_mem hlt
          obtain ⟨n, en⟩ := st.lab _ hm
          refine ⟨right_rename hr hnm (by rw [en]; exact iname_ok n), hf, ?_⟩
          unfold knownB
          rw [if_neg h17]
          have := mem_place _ hm
          simp only [this, Bool.true_or]
    · right
      refine ⟨h1, ?_, ?_⟩
      · show nameIn names j lines[j].ins = _
        rw [h2]
        unfold nameIn
        rw [if_neg (by decide), if_neg (by simp [zeroI])]
      · show ∃ n, lines[j].label = iname n
        refine st.lab _ ?_
        rw [hn, List.mem_filter]
        exact ⟨List.mem_map_of_mem (List.getElem_mem hj'), by simpa using h1⟩
  · have hnd := st.nodup
    rw [show (names, lines).1 = names from rfl, hn] at hnd
    intro i j hi hj hij e
    obtain ⟨hi', e1⟩ := hat i hi
    obtain ⟨hj', e2⟩ := hat j hj
    rw [e1] at e ⊢
    rw [e2] at e
    exact nodup_labels hnd i j hi' hj' hij e
  · obtain ⟨s0, hs0⟩ := List.exists_mem_of_ne_nil names hne
    rw [hn] at hs0
    obtain ⟨h1, h2⟩ := List.mem_filter.1 hs0
    obtain ⟨x, hx, e⟩ := List.mem_map.1 h1
    obtain ⟨i, hi, rfl⟩ := List.getElem_of_mem hx
    refine ⟨i, by simpa using hi, ?_⟩
    obtain ⟨_, e1⟩ := hat i (by simpa using hi)
    rw [e1]
    show lines[i].label ≠ []
    rw [e]
    simpa using h2
theorem GoodC.place {c : Cd} (h : GoodC c) {j : Nat} (hj : j < c.lines.length) (hl : c.lines[j].label ≠ []) : place c.lines c.lines[j].label = some j :=
  place_of hl hj rfl (fun i hi e => hl (e ▸ h.uniq i j (by omega) hj hi e))
theorem GoodC.well {c : Cd} (h : GoodC c) {j : Nat} (hj : j < c.lines.length) : wellB c.lines[j] = true := by
  unfold wellB
  rcases h.line j hj with ⟨h1, h2, _⟩ | ⟨h1, h2, n, h3⟩
  · rw [if_pos h1]; exact h2
  · rw [if_neg h1, h2, h3, iname_ok n]; rfl
theorem GoodC.known {c : Cd} (h : GoodC c) {j : Nat} (hj : j < c.lines.length) : knownB c c.lines[j].ins = true := by
  rcases h.line j hj with ⟨_, _, _, h4⟩ | ⟨_, h2, _⟩
  · exact h4
  · rw [h2]; unfold knownB; rw [if_neg (by decide)]; simp [zeroI]
theorem arrs2_ok : arrsE arrs2 = 0 := by decide
theorem GoodC.check {c : Cd} (h : GoodC c) : checkC c = (0, 0) := by
  have := h.len
  refine checkC_ok (by omega) (by rw [h.arrs]; exact arrs2_ok) fun j hj => lineE_zero.2 ⟨h.well hj, fun hl => ?_, h.known hj⟩
  unfold placeI
  rw [h.place hj hl]
  exact Int.le_refl _
end Go.Proofs.YtlkfmnabbmceeaaGreatDoor

namespace Go.Proofs.YtlkfmnabbmceeaaGreatDoor
set_option maxRecDepth 100000
set_option maxHeartbeats 4000000

/-! ### Cut, trimmed -/
theorem index_one (k : UInt8) : ∀ (w r : Bs), k ∉ w → Lib.index (w ++ k :: r) [k] = w.length
  | [], r, _ => by simp [Lib.index, List.isPrefixOf]
  | c :: w, r, h => by
    have hc : c ≠ k := fun e => h (by rw [e]; exact List.mem_cons_self)
    have ih := index_one k w r (fun hm => h (List.mem_cons_of_mem _ hm))
    have hc' : (k == c) = false := by simpa using fun e => hc e.symm
    have hp : ([k] : Bs).isPrefixOf (c :: (w ++ k :: r)) = false := by simp [List.isPrefixOf, hc']
    rw [List.cons_append]
    unfold Lib.index
    rw [hp, ih]
    have : ((w.length : Int) == -1) = false := by rw [beq_eq_false_iff_ne]; omega
    simp [this]
theorem index_no (k : UInt8) : ∀ (w : Bs), k ∉ w → Lib.index w [k] = -1
  | [], _ => by simp [Lib.index]
  | c :: w, h => by
    have hc : c ≠ k := fun e => h (by rw [e]; exact List.mem_cons_self)
    have ih := index_no k w (fun hm => h (List.mem_cons_of_mem _ hm))
    have hc' : (k == c) = false := by simpa using fun e => hc e.symm
    have hp : ([k] : Bs).isPrefixOf (c :: w) = false := by simp [List.isPrefixOf, hc']
    unfold Lib.index
    rw [hp, ih]
    simp
theorem cut_one (k : UInt8) (w r : Bs) (h : k ∉ w) : Lib.cut (w ++ k :: r) [k] = (w, r, true) := by
  unfold Lib.cut
  rw [index_one k w r h, if_pos (by omega)]
  simp
theorem cut_no (k : UInt8) (w : Bs) (h : k ∉ w) : Lib.cut w [k] = (w, [], false) := by
  unfold Lib.cut
  rw [index_no k w h, if_neg (by decide)]
def blankC (c : UInt8) : Bool := [32, 9].contains c
theorem drop_blank (p x : Bs) (hp : p.all blankC = true) : (p ++ x).dropWhile blankC = x.dropWhile blankC := by
  induction p with
  | nil => rfl
  | cons c p ih =>
    simp only [List.all_cons, Bool.and_eq_true] at hp
    rw [List.cons_append, List.dropWhile_cons, if_pos hp.1]
    exact ih hp.2
theorem dropBack (x q : Bs) (hq : q.all blankC = true) : ((x ++ q).reverse.dropWhile blankC).reverse = (x.reverse.dropWhile blankC).reverse := by
  rw [List.reverse_append, drop_blank _ _ (by rw [List.all_reverse]; exact hq)]
theorem trim_both (p x q : Bs) (hp : p.all blankC = true) (hq : q.all blankC = true) : Lib.trimS (p ++ (x ++ q)) [32, 9] = Lib.trimS x [32, 9] := by
  have key : ∀ l : Bs, Lib.trimS l [32, 9] = ((l.reverse.dropWhile blankC).reverse).dropWhile blankC := fun l => rfl
  rw [key, key, ← List.append_assoc, dropBack _ _ hq]
  have e2 : ∀ (l : Bs), ((p ++ l).reverse.dropWhile blankC).reverse.dropWhile blankC = ((l.reverse.dropWhile blankC).reverse).dropWhile blankC := by
    intro l
    rw [List.reverse_append, List.dropWhile_append]
    split
    · rename_i h
      have e3 : l.reverse.dropWhile blankC = [] := by simpa using h
      rw [e3]
      have e4 : p.reverse.dropWhile blankC = [] := by
        have := drop_blank p.reverse [] (by rw [List.all_reverse]; exact hp)
        simpa using this
      rw [e4]
    · rw [List.reverse_append, List.reverse_reverse, drop_blank _ _ hp]
  exact e2 x
theorem trim_self {l : Bs} (h1 : ∀ c, l.head? = some c → blankC c = false) (h2 : ∀ c, l.getLast? = some c → blankC c = false) : Lib.trimS l [32, 9] = l := by
  have key : Lib.trimS l [32, 9] = ((l.reverse.dropWhile blankC).reverse).dropWhile blankC := rfl
  rw [key]
  have e1 : l.reverse.dropWhile blankC = l.reverse := by
    cases hr : l.reverse with
    | nil => rfl
    | cons c r =>
      rw [List.dropWhile_cons, if_neg]
      have := h2 c (by rw [List.getLast?_eq_head?_reverse, hr]; rfl)
      rw [this]; decide
  rw [e1, List.reverse_reverse]
  cases l with
  | nil => rfl
  | cons c r =>
    rw [List.dropWhile_cons, if_neg]
    have := h1 c rfl
    rw [this]; decide
theorem bare_both (p x q : Bs) (hp : p.all blankC = true) (hq : q.all blankC = true) (hx : (35 : UInt8) ∉ x) : bareA (p ++ (x ++ q)) = bareA x := by
  have nb : ∀ l : Bs, l.all blankC = true → (35 : UInt8) ∉ l := fun l hl hm => by
    have := List.all_eq_true.1 hl _ hm
    revert this; decide
  have h : (35 : UInt8) ∉ p ++ (x ++ q) := by
    simp only [List.mem_append, not_or]
    exact ⟨nb p hp, hx, nb q hq⟩
  unfold bareA
  rw [cut_no 35 _ h, cut_no 35 _ hx]
  exact trim_both p x q hp hq
theorem bare_note (x r : Bs) (hx : (35 : UInt8) ∉ x) : bareA (x ++ 35 :: r) = bareA x := by
  unfold bareA
  rw [cut_one 35 _ _ hx, cut_no 35 _ hx]
/-! ### Lines -/
theorem lines_app : ∀ (w cur r : Bs), (10 : UInt8) ∉ w → linesG cur (w ++ r) = linesG (cur ++ w) r
  | [], cur, r, _ => by simp
  | c :: w, cur, r, h => by
    have hc : c ≠ 10 := fun e => h (by rw [e]; exact List.mem_cons_self)
    have e : linesG cur (c :: (w ++ r)) = linesG (cur ++ [c]) (w ++ r) := by
      show (if c = 10 then _ else _) = _
      rw [if_neg hc]
    rw [List.cons_append, e, lines_app w _ r (fun hm => h (List.mem_cons_of_mem _ hm))]
    simp
theorem lines_feed (cur r : Bs) : linesG cur (10 :: r) = cur :: linesG [] r := by
  show (if (10 : UInt8) = 10 then _ else _) = _
  rw [if_pos rfl]
/-- The lines that are not empty, bare. -/
def NE (l : List Bs) : List Bs := (l.map bareA).filter (fun s => s != [])
def sepsQ : List Bs := [[10], [32, 10], [32, 35, 32, 106, 32, 120, 58, 10], [10, 10], [35, 10, 9], [9, 9, 10, 32, 32]]
def sepQ (bl : List Int) : Bs := match bl with | [] => [10] | b :: _ => sepsQ.getD (ipick b 6).toNat []
def blankT : List Int → Bs → Bs
  | _, [] => []
  | bl, c :: s => if c = 10 then sepQ bl ++ blankT bl.tail s else c :: blankT bl s
theorem bare_nil : bareA [] = [] := by decide
theorem NE_cons (x : Bs) (l : List Bs) : NE (x :: l) = (if bareA x = [] then [] else [bareA x]) ++ NE l := by
  unfold NE
  rw [List.map_cons, List.filter_cons]
  by_cases h : bareA x = []
  · simp [h]
  · simp [h]
theorem sepQ_cases (bl : List Int) : sepQ bl ∈ sepsQ := by
  unfold sepQ
  cases bl with
  | nil => exact List.mem_cons_self
  | cons b l =>
    have := ipick_range b 6 (by decide)
    have hl : (ipick b 6).toNat < sepsQ.length := by show _ < 6; omega
    show sepsQ.getD _ _ ∈ _
    rw [List.getD_eq_getElem?_getD, List.getElem?_eq_getElem hl]
    exact List.getElem_mem hl
theorem NE_blank : ∀ (s : Bs) (bl : List Int) (p cur : Bs), (35 : UInt8) ∉ s → (35 : UInt8) ∉ cur → p.all blankC = true → NE (linesG (p ++ cur) (blankT bl s)) = NE (linesG cur s)
  | [], bl, p, cur, _, hc, hp => by
    have e := bare_both p cur [] hp rfl hc
    rw [List.append_nil] at e
    show NE [p ++ cur] = NE [cur]
    unfold NE
    simp only [List.map_cons, List.map_nil, e]
  | c :: s, bl, p, cur, hs, hc, hp => by
    have hs' : (35 : UInt8) ∉ s := fun h => hs (List.mem_cons_of_mem _ h)
    have hc35 : c ≠ 35 := fun e => hs (by rw [e]; exact List.mem_cons_self)
    by_cases h10 : c = 10
    · subst h10
      have eb : blankT bl (10 :: s) = sepQ bl ++ blankT bl.tail s := by
        show (if (10 : UInt8) = 10 then _ else _) = _
        rw [if_pos rfl]
      rw [eb, lines_feed, NE_cons]
      have ih : ∀ q : Bs, q.all blankC = true → NE (linesG q (blankT bl.tail s)) = NE (linesG [] s) := fun q hq => by
        have := NE_blank s bl.tail q [] hs' (by simp) hq
        rwa [List.append_nil] at this
      have b0 : bareA (p ++ cur) = bareA cur := by have := bare_both p cur [] hp rfl hc; rwa [List.append_nil] at this
      have bq : ∀ q : Bs, q.all blankC = true → bareA (p ++ cur ++ q) = bareA cur := fun q hq => by rw [List.append_assoc]; exact bare_both p cur q hp hq hc
      have hpc : (35 : UInt8) ∉ p ++ cur := by
        intro h
        rcases List.mem_append.1 h with h | h
        · have := List.all_eq_true.1 hp _ h; revert this; decide
        · exact hc h
      have bn : ∀ q r : Bs, q.all blankC = true → bareA (p ++ cur ++ (q ++ 35 :: r)) = bareA cur := fun q r hq => by
        rw [← List.append_assoc, bare_note _ _ ?_]
        · exact bq q hq
        · intro h
          rcases List.mem_append.1 h with h | h
          · exact hpc h
          · have := List.all_eq_true.1 hq _ h; revert this; decide
      have hm := sepQ_cases bl
      simp only [sepsQ, List.mem_cons, List.not_mem_nil, or_false] at hm
      rcases hm with e | e | e | e | e | e
      · rw [e, show ([10] : Bs) ++ blankT bl.tail s = 10 :: blankT bl.tail s from rfl, lines_feed, NE_cons, b0, ih [] rfl]
      · rw [e, show ([32, 10] : Bs) ++ blankT bl.tail s = [32] ++ 10 :: blankT bl.tail s from rfl, lines_app _ _ _ (by decide), lines_feed, NE_cons, bq [32] rfl, ih [] rfl]
      · rw [e, show ([32, 35, 32, 106, 32, 120, 58, 10] : Bs) ++ blankT bl.tail s = [32, 35, 32, 106, 32, 120, 58] ++ 10 :: blankT bl.tail s from rfl, lines_app _ _ _ (by decide), lines_feed, NE_cons]
        have := bn [32] [32, 106, 32, 120, 58] rfl
        rw [show p ++ cur ++ [32, 35, 32, 106, 32, 120, 58] = p ++ cur ++ ([32] ++ 35 :: [32, 106, 32, 120, 58]) from rfl, this, ih [] rfl]
      · rw [e, show ([10, 10] : Bs) ++ blankT bl.tail s = 10 :: (10 :: blankT bl.tail s) from rfl, lines_feed, lines_feed, NE_cons, NE_cons, b0, if_pos bare_nil, List.nil_append, ih [] rfl]
      · rw [e, show ([35, 10, 9] : Bs) ++ blankT bl.tail s = [35] ++ 10 :: ([9] ++ blankT bl.tail s) from rfl, lines_app _ _ _ (by decide), lines_feed, NE_cons, lines_app _ _ _ (by decide)]
        have := bn [] [] rfl
        rw [show p ++ cur ++ [35] = p ++ cur ++ ([] ++ 35 :: []) from rfl, this, List.nil_append, ih [9] rfl]
      · rw [e, show ([9, 9, 10, 32, 32] : Bs) ++ blankT bl.tail s = [9, 9] ++ 10 :: ([32, 32] ++ blankT bl.tail s) from rfl, lines_app _ _ _ (by decide), lines_feed, NE_cons, lines_app _ _ _ (by decide), bq [9, 9] rfl, List.nil_append, ih [32, 32] rfl]
    · have eb : blankT bl (c :: s) = c :: blankT bl s := by
        show (if c = 10 then _ else _) = _
        rw [if_neg h10]
      have e1 : ∀ (X r : Bs), linesG X (c :: r) = linesG (X ++ [c]) r := fun X r => by
        show (if c = 10 then _ else _) = _
        rw [if_neg h10]
      rw [eb, e1, e1, List.append_assoc]
      refine NE_blank s bl p (cur ++ [c]) hs' ?_ hp
      intro h
      rcases List.mem_append.1 h with h | h
      · exact hc h
      · exact hc35 (List.mem_singleton.1 h).symm
/-! ### Taken, line by line -/
def takeB (a : List Ar) (l : List Ln) (s : Bs) : Option (List Ar × List Ln) :=
  if (arrayA s).isSome = true ∧ l = [] then (arrayA s).map fun y => (a ++ [y], l) else
  if (lineA s).2 = true then some (a, l ++ [(lineA s).1]) else none
def takesB : List Ar → List Ln → List Bs → Option (List Ar × List Ln)
  | a, l, [] => some (a, l)
  | a, l, t :: ts => match takeB a l t with
    | none => none
    | some (a', l') => takesB a' l' ts
def coreS (r : Src ⊕ Int) : Option (List Ar × List Ln) := match r with | .inl y => some (y.arrs, y.lines) | .inr _ => none
theorem take_core (x : Src) (s : Bs) (n : Int) (hs : s ≠ []) : (takeA x s n).map (fun y => (y.arrs, y.lines)) = takeB x.arrs x.lines s := by
  unfold takeA takeB
  rw [if_neg hs]
  split
  · cases arrayA s <;> rfl
  · split <;> rfl
theorem takes_core : ∀ (ts : List Bs) (x : Src) (i : Int), coreS (takesA x i ts) = takesB x.arrs x.lines (NE ts)
  | [], x, i => rfl
  | t :: ts, x, i => by
    rw [NE_cons]
    by_cases hb : bareA t = []
    · rw [if_pos hb, List.nil_append]
      have e : takesA x i (t :: ts) = takesA x (i + 1) ts := by
        show (match takeA x (bareA t) (i + 1) with | none => _ | some x' => _) = _
        rw [hb]
        unfold takeA
        rw [if_pos rfl]
      rw [e, takes_core ts x (i + 1)]
    · rw [if_neg hb, List.singleton_append]
      show coreS (match takeA x (bareA t) (i + 1) with | none => .inr (i + 1) | some x' => takesA x' (i + 1) ts) = (match takeB x.arrs x.lines (bareA t) with | none => none | some (a', l') => takesB a' l' (NE ts))
      rw [← take_core x (bareA t) (i + 1) hb]
      cases takeA x (bareA t) (i + 1) with
      | none => rfl
      | some y => exact takes_core ts y (i + 1)
theorem parse_of {s : Bs} {c : Cd} (hs : s.length ≤ 400000) (h : takesB [] [] (NE (linesG [] s)) = some (c.arrs, c.lines)) (hc : checkC c = (0, 0)) : parseA s = (c, 0, 0) := by
  have key := takes_core (linesG [] s) ⟨[], [], []⟩ 0
  rw [h] at key
  unfold parseA
  rw [if_neg (by omega)]
  cases ht : takesA ⟨[], [], []⟩ 0 (linesG [] s) with
  | inr n => rw [ht] at key; cases key
  | inl y =>
    rw [ht] at key
    have key : some (y.arrs, y.lines) = some (c.arrs, c.lines) := key
    simp only [Option.some.injEq, Prod.mk.injEq] at key
    obtain ⟨e1, e2⟩ := key
    show endA y = _
    unfold endA
    rw [e1, e2]
    show (if (checkC c).1 = 0 then (c, (0 : Int), (0 : Int)) else _) = _
    rw [hc, if_pos rfl]
/-! ### What texts are made of -/
def txB (c : UInt8) : Bool := isDigit c || (labC c || (c == 45 || sepB c))
theorem txB_no {c : UInt8} (h : txB c = true) : c ≠ 35 ∧ c ≠ 10 ∧ c ≠ 9 ∧ c ≠ 58 := by
  refine ⟨?_, ?_, ?_, ?_⟩ <;> (rintro rfl; revert h; decide)
theorem lab_tx : ∀ (b : Bool) (l : Bs), labelAt b l = true → ∀ c, c ∈ l → (isDigit c || labC c) = true
  | _, [], _, c, hc => by cases hc
  | b, a :: l, h, c, hc => by
    simp only [labelAt, Bool.and_eq_true] at h
    rcases List.mem_cons.1 hc with rfl | hc
    · have h1 := h.1
      simp only [Bool.or_eq_true, Bool.and_eq_true] at h1 ⊢
      rcases h1 with h1 | h1
      · exact .inl h1.1
      · exact .inr h1
    · exact lab_tx false l h.2 c hc
theorem label_tx {l : Bs} (h : labelB l = true) : ∀ c, c ∈ l → (isDigit c || labC c) = true := by
  simp only [labelB, Bool.and_eq_true] at h
  exact lab_tx true l h.1
theorem tx_lab {c : UInt8} (h : (isDigit c || labC c) = true) : txB c = true ∧ sepB c = false ∧ blankC c = false := by
  have hs : c ≠ 32 ∧ c ≠ 44 ∧ c ≠ 40 ∧ c ≠ 41 ∧ c ≠ 9 := by
    refine ⟨?_, ?_, ?_, ?_, ?_⟩ <;> (rintro rfl; revert h; decide)
  refine ⟨?_, ?_, ?_⟩
  · unfold txB
    rcases Bool.or_eq_true _ _ ▸ h with h | h
    · rw [h]; rfl
    · rw [h]; simp
  · simp [sepB, hs]
  · simp [blankC, hs]
theorem words_tx : ∀ r, r ∈ rowsI → r.1.all (fun c => isLetter c && (c != 95 && (txB c && !blankC c))) = true ∧ (r.2 ≠ [] → ∀ c, r.2.getLast? = some c → sepB c = true → c = 41) := by decide
theorem row_tx (op : Int) : (rowI op).1.all (fun c => isLetter c && (c != 95 && (txB c && !blankC c))) = true ∧ ((rowI op).2 ≠ [] → ∀ c, (rowI op).2.getLast? = some c → sepB c = true → c = 41) := by
  rcases row_mem op with h | h
  · rw [h]; exact ⟨rfl, fun h => absurd rfl h⟩
  · exact words_tx _ h.1
theorem piece_tx {x : Ins} (h : rightI x = true) : ∀ c, c ∈ (rowI x.op).2 → ∀ d, d ∈ pieceI x c → txB d = true := by
  intro c hc d hd
  have num : ∀ v, ∀ d, d ∈ Lib.itoa v → txB d = true := fun v d hd => by
    rcases itoa_mem v d hd with h | h
    · unfold txB; rw [h]; rfl
    · rw [h]; decide
  have reg : ∀ v, ∀ d, d ∈ (120 : UInt8) :: Lib.itoa v → txB d = true := fun v d hd => by
    rcases List.mem_cons.1 hd with rfl | hd
    · decide
    · exact num v d hd
  by_cases hs : sepB c = true
  · rw [piece_sep x c hs, List.mem_singleton] at hd
    subst hd
    unfold txB
    simp [hs]
  · have hk : keyB c = true := by
      rcases ((row_ok x.op).2.1 c hc).1 with h' | h'
      · exact absurd h' hs
      · exact h'
    rcases keys_cases hk with rfl | rfl | rfl | rfl | rfl | rfl
    · exact reg x.d d hd
    · exact reg x.a d hd
    · exact reg x.b d hd
    · exact num x.n d hd
    · exact num x.n d hd
    · exact (tx_lab (label_tx ((right_open h).2.2.1 hc) d hd)).1
theorem text_tx {x : Ins} (h : rightI x = true) : ∀ d, d ∈ textI x → txB d = true := by
  intro d hd
  unfold textI at hd
  rcases List.mem_append.1 hd with hd | hd
  · have := List.all_eq_true.1 (row_tx x.op).1 d hd
    simp only [Bool.and_eq_true] at this
    exact this.2.2.1
  · rcases List.mem_append.1 hd with hd | hd
    · split at hd
      · cases hd
      · rw [List.mem_singleton.1 hd]; decide
    · obtain ⟨c, hc, hd⟩ := List.mem_flatMap.1 hd
      exact piece_tx h c hc d hd
theorem text_head {x : Ins} (h : rightI x = true) : ∃ c t, textI x = c :: t ∧ isLetter c = true ∧ c ≠ 95 ∧ blankC c = false := by
  have hw := (right_open h).2.1
  cases hr : (rowI x.op).1 with
  | nil => exact absurd hr hw
  | cons c t =>
    have := (row_tx x.op).1
    rw [hr] at this
    simp only [List.all_cons, Bool.and_eq_true] at this
    refine ⟨c, t ++ ((if (rowI x.op).2 = [] then [] else [32]) ++ (rowI x.op).2.flatMap (pieceI x)), ?_, this.1.1, by simpa using this.1.2.1, by simpa using this.1.2.2.2⟩
    unfold textI
    rw [hr]; rfl
theorem last_some {l : Bs} (h : l ≠ []) : l.getLast?.isSome = true := by
  cases e : l.getLast? with
  | none => exact absurd (List.getLast?_eq_none_iff.1 e) h
  | some d => rfl
theorem getLast_flat (p : UInt8 → Bs) : ∀ (f : Bs), (∀ c, c ∈ f → p c ≠ []) → ∀ d, (f.flatMap p).getLast? = some d → ∃ c, f.getLast? = some c ∧ (p c).getLast? = some d
  | [], _, d, h => by simp at h
  | [c], hp, d, h => by
    refine ⟨c, rfl, ?_⟩
    simpa using h
  | c :: e :: f, hp, d, h => by
    have hne : (e :: f).flatMap p ≠ [] := by
      intro h0
      have := hp e (by simp)
      rw [List.flatMap_cons] at h0
      exact this (List.append_eq_nil_iff.1 h0).1
    rw [List.flatMap_cons, List.getLast?_append, Option.or_of_isSome (last_some hne)] at h
    obtain ⟨k, h1, h2⟩ := getLast_flat p (e :: f) (fun x hx => hp x (List.mem_cons_of_mem _ hx)) d h
    exact ⟨k, by rw [List.getLast?_cons_cons]; exact h1, h2⟩
theorem text_last {x : Ins} (h : rightI x = true) : ∀ d, (textI x).getLast? = some d → blankC d = false := by
  intro d hd
  unfold textI at hd
  by_cases hf : (rowI x.op).2 = []
  · rw [if_pos hf, hf] at hd
    simp only [List.flatMap_nil, List.append_nil] at hd
    have := List.all_eq_true.1 (row_tx x.op).1 d (List.mem_of_getLast? hd)
    simp only [Bool.and_eq_true] at this
    simpa using this.2.2.2
  · rw [if_neg hf] at hd
    have hp : ∀ c, c ∈ (rowI x.op).2 → pieceI x c ≠ [] := by
      intro c hc
      by_cases hs : sepB c = true
      · rw [piece_sep x c hs]; exact List.cons_ne_nil _ _
      · exact (piece_ok h c hc (by simpa using hs)).1
    have hne : (rowI x.op).2.flatMap (pieceI x) ≠ [] := by
      cases hr : (rowI x.op).2 with
      | nil => exact absurd hr hf
      | cons c t =>
        intro h0
        rw [List.flatMap_cons] at h0
        exact hp c (by rw [hr]; exact List.mem_cons_self) (List.append_eq_nil_iff.1 h0).1
    rw [List.getLast?_append, Option.or_of_isSome (last_some (by simp)), List.getLast?_append, Option.or_of_isSome (last_some hne)] at hd
    obtain ⟨c, hc, hd2⟩ := getLast_flat _ _ hp d hd
    by_cases hs : sepB c = true
    · have e := (row_tx x.op).2 hf c hc hs
      subst e
      rw [piece_sep x 41 hs] at hd2
      have : (41 : UInt8) = d := by simpa using hd2
      rw [← this]; decide
    · have := (piece_ok h c (List.mem_of_getLast? hc) (by simpa using hs)).2 d (List.mem_of_getLast? hd2)
      have h1 := this.1
      have h9 := (txB_no (piece_tx h c (List.mem_of_getLast? hc) d (List.mem_of_getLast? hd2))).2.2.1
      have h32 : d ≠ 32 := by rintro rfl; revert h1; decide
      simp [blankC, h9, h32]
end Go.Proofs.YtlkfmnabbmceeaaGreatDoor
