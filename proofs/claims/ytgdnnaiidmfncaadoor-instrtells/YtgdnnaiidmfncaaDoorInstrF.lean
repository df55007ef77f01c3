/-
  pick, Name, Fit: of a raw instruction a right one. Conditions: the raw numbers are ints.
  Fit: its walk, what stays. Conditions: the raw numbers are ints.
  Fit: its walk at the instructions of class 1. Conditions: the raw numbers are ints.
  Fit: its walk at the instructions of class 2. Conditions: the raw numbers are ints.
  Fit: its walk at the instructions of class 3. Conditions: the raw numbers are ints.
  Fit: its walk at the instructions of class 4. Conditions: the raw numbers are ints.
  Fit: its walk at the instructions of class 5. Conditions: the raw numbers are ints.
  Fit: its walk at the instructions of class 6. Conditions: the raw numbers are ints.
  Fit: its walk at the instructions of class 7. Conditions: the raw numbers are ints.
  Fit: its walk at the instructions of class 8. Conditions: the raw numbers are ints.
  Fit: its walk at the instructions of class 9. Conditions: the raw numbers are ints.
  Fit: its walk at the instructions of class 10. Conditions: the raw numbers are ints.
  Fit: its walk, all classes. Conditions: the raw numbers are ints.
-/
import Derived.Test.YtgdnnaiidmfncaaDoorInstrC
import Derived.IntWalk
import Derived.Test.YtgdnnaiidmfncaaDoorInstrE
set_option linter.unusedVariables false
set_option linter.unusedSimpArgs false
namespace Go.Proofs.YtgdnnaiidmfncaaDoor
open Go.RowKit
set_option maxHeartbeats 4000000
set_option maxRecDepth 100000

def ipick (c n : Int) : Int := (if c < 0 then -(c + 1) else c) % n
theorem ipick_range (c n : Int) (h : 0 < n) : 0 ≤ ipick c n ∧ ipick c n < n := ⟨Int.emod_nonneg _ (by omega), Int.emod_lt_of_pos _ h⟩
def ipres : List Bs := [[109, 97, 105, 110], [102], [76, 49], [46, 120], [97, 95, 98], [90], [95], [120, 49]]
def isufs : List Bs := [[], [48], [46, 101, 110, 100], [95, 50], [81]]
def inameN (k : Nat) : Bs := ipres.getD (k % 8) [] ++ isufs.getD (k / 8) []
def iname (n : Int) : Bs := inameN (ipick n 40).toNat
theorem inames_ok : ∀ k : Fin 40, labelB (inameN k.val) = true := by decide +kernel
theorem iname_ok (n : Int) : labelB (iname n) = true := by
  have := ipick_range n 40 (by decide)
  exact inames_ok ⟨(ipick n 40).toNat, by omega⟩
/-- Of a raw instruction, a right one. -/
def fitI (x : Ins) : Ins :=
  let o := 1 + ipick x.op 28
  let d := ipick x.d 32
  let a := ipick x.a 32
  let b := ipick x.b 32
  let s := ipick x.n 4095 - 2047
  if o ≤ 12 then ⟨o, d, a, b, 0, []⟩
  else if o ≤ 15 then ⟨o, d, a, 0, 0, []⟩
  else if o = 16 then ⟨o, d, 0, 0, x.n, []⟩
  else if o = 17 then ⟨o, d, 0, 0, 0, iname x.n⟩
  else if o = 18 ∨ o = 19 then ⟨o, d, a, 0, s, []⟩
  else if o = 20 then ⟨o, 0, a, b, s, []⟩
  else if o ≤ 24 then ⟨o, 0, a, b, 0, iname x.n⟩
  else if o ≤ 26 then ⟨o, 0, 0, 0, 0, iname x.n⟩
  else ⟨o, 0, 0, 0, 0, []⟩
structure RawI (x : Ins) : Prop where
  op : I64 x.op
  d : I64 x.d
  a : I64 x.a
  b : I64 x.b
  n : I64 x.n
/-- The right form of what is right: the tests, one by one. -/
theorem right_of {x : Ins} {w f : Bs} (hrow : rowI x.op = (w, f)) (hw : w ≠ []) (hm : ∀ c, c ∈ f → c ≠ 76 → ∀ v, partI x c = some v → mayI v c = true)
    (he : x = ⟨x.op, if 68 ∈ f then x.d else 0, if 65 ∈ f then x.a else 0, if 66 ∈ f then x.b else 0, if 78 ∈ f ∨ 83 ∈ f then x.n else 0, if 76 ∈ f then x.name else []⟩) (hl : (76 ∈ f) ↔ labelB x.name = true) : rightI x = true := by
  have hf : foldR x f (zeroI x.op) = some x := (foldR_spec x f _ _).2 ⟨hm, by exact he⟩
  unfold rightI
  rw [hrow]
  show (match foldR x f (zeroI x.op) with | none => false | some o => _) = true
  rw [hf]
  have h1 : insEq x x = true := (insEq_iff x x).2 rfl
  have h2 : (f.contains 76 == labelB x.name) = true := by
    rw [beq_iff_eq, Bool.eq_iff_iff, List.contains_iff_mem]; exact hl
  have h3 : w.isEmpty = false := by simpa using hw
  show (!w.isEmpty && (insEq x x && (f.contains 76 == labelB x.name))) = true
  rw [h1, h2, h3]; rfl
theorem may_reg (c : Int) (k : UInt8) (h : k ≠ 78 ∧ k ≠ 83) : mayI (ipick c 32) k = true := by
  have := ipick_range c 32 (by decide)
  unfold mayI
  rw [if_neg h.1, if_neg h.2]
  simpa using this
theorem rows_forms : ∀ o : Fin 29, (1 ≤ o.val → (rowI o.val).1 ≠ []) ∧ (rowI o.val).2 = (if o.val = 0 then [] else if o.val ≤ 12 then [68, 44, 32, 65, 44, 32, 66] else if o.val ≤ 15 then [68, 44, 32, 65] else if o.val = 16 then [68, 44, 32, 78] else if o.val = 17 then [68, 44, 32, 76] else if o.val ≤ 18 then [68, 44, 32, 65, 44, 32, 83] else if o.val = 19 then [68, 44, 32, 83, 40, 65, 41] else if o.val = 20 then [66, 44, 32, 83, 40, 65, 41] else if o.val ≤ 24 then [65, 44, 32, 66, 44, 32, 76] else if o.val ≤ 26 then [76] else []) := by decide +kernel
theorem row_form (o : Int) (h1 : 1 ≤ o) (h2 : o ≤ 28) : (rowI o).1 ≠ [] ∧ (rowI o).2 = (if o = 0 then [] else if o ≤ 12 then [68, 44, 32, 65, 44, 32, 66] else if o ≤ 15 then [68, 44, 32, 65] else if o = 16 then [68, 44, 32, 78] else if o = 17 then [68, 44, 32, 76] else if o ≤ 18 then [68, 44, 32, 65, 44, 32, 83] else if o = 19 then [68, 44, 32, 83, 40, 65, 41] else if o = 20 then [66, 44, 32, 83, 40, 65, 41] else if o ≤ 24 then [65, 44, 32, 66, 44, 32, 76] else if o ≤ 26 then [76] else []) := by
  obtain ⟨k, rfl⟩ : ∃ k : Nat, o = (k : Int) := ⟨o.toNat, by omega⟩
  have h := rows_forms ⟨k, by omega⟩
  dsimp only at h
  refine ⟨h.1 (by omega), ?_⟩
  rw [h.2]
  by_cases a0 : k = 0
  · omega
  rw [if_neg a0, if_neg (show ¬ (k : Int) = 0 by omega)]
  by_cases a1 : k ≤ 12
  · rw [if_pos a1, if_pos (show (k : Int) ≤ 12 by omega)]
  rw [if_neg a1, if_neg (show ¬ (k : Int) ≤ 12 by omega)]
  by_cases a2 : k ≤ 15
  · rw [if_pos a2, if_pos (show (k : Int) ≤ 15 by omega)]
  rw [if_neg a2, if_neg (show ¬ (k : Int) ≤ 15 by omega)]
  by_cases a3 : k = 16
  · rw [if_pos a3, if_pos (show (k : Int) = 16 by omega)]
  rw [if_neg a3, if_neg (show ¬ (k : Int) = 16 by omega)]
  by_cases a4 : k = 17
  · rw [if_pos a4, if_pos (show (k : Int) = 17 by omega)]
  rw [if_neg a4, if_neg (show ¬ (k : Int) = 17 by omega)]
  by_cases a5 : k ≤ 18
  · rw [if_pos a5, if_pos (show (k : Int) ≤ 18 by omega)]
  rw [if_neg a5, if_neg (show ¬ (k : Int) ≤ 18 by omega)]
  by_cases a6 : k = 19
  · rw [if_pos a6, if_pos (show (k : Int) = 19 by omega)]
  rw [if_neg a6, if_neg (show ¬ (k : Int) = 19 by omega)]
  by_cases a7 : k = 20
  · rw [if_pos a7, if_pos (show (k : Int) = 20 by omega)]
  rw [if_neg a7, if_neg (show ¬ (k : Int) = 20 by omega)]
  by_cases a8 : k ≤ 24
  · rw [if_pos a8, if_pos (show (k : Int) ≤ 24 by omega)]
  rw [if_neg a8, if_neg (show ¬ (k : Int) ≤ 24 by omega)]
  by_cases a9 : k ≤ 26
  · rw [if_pos a9, if_pos (show (k : Int) ≤ 26 by omega)]
  rw [if_neg a9, if_neg (show ¬ (k : Int) ≤ 26 by omega)]
theorem fr1 (o d a b n : Int) (nm : Bs) (ho : 1 ≤ o ∧ o ≤ 12) (hd : mayI d 68 = true) (ha : mayI a 65 = true) (hb : mayI b 66 = true) (hn : mayI n 83 = true ∨ True) (hl : labelB nm = true) : rightI ⟨o, d, a, b, 0, []⟩ = true := by
  have hr := row_form o (by omega) (by omega)
  rw [if_neg (show ¬ o = 0 by omega), if_pos (show o ≤ 12 by omega)] at hr
  refine right_of (x := ⟨o, d, a, b, 0, []⟩) (w := (rowI o).1) (f := [68, 44, 32, 65, 44, 32, 66]) (Prod.ext rfl hr.2) hr.1 ?_ (by first | rfl | simp) ?_
  · intro c hc h76 v hv
    simp only [List.mem_cons, List.not_mem_nil, or_false] at hc
    rcases hc with rfl | rfl | rfl | rfl | rfl | rfl | rfl
    · cases hv; exact hd
    · cases hv
    · cases hv
    · cases hv; exact ha
    · cases hv
    · cases hv
    · cases hv; exact hb
  · exact ⟨fun h => absurd h (by decide), fun h => absurd (show labelB [] = true from h) (by decide)⟩
theorem fr2 (o d a b n : Int) (nm : Bs) (ho : 13 ≤ o ∧ o ≤ 15) (hd : mayI d 68 = true) (ha : mayI a 65 = true) (hb : mayI b 66 = true) (hn : mayI n 83 = true ∨ True) (hl : labelB nm = true) : rightI ⟨o, d, a, 0, 0, []⟩ = true := by
  have hr := row_form o (by omega) (by omega)
  rw [if_neg (show ¬ o = 0 by omega), if_neg (show ¬ o ≤ 12 by omega), if_pos (show o ≤ 15 by omega)] at hr
  refine right_of (x := ⟨o, d, a, 0, 0, []⟩) (w := (rowI o).1) (f := [68, 44, 32, 65]) (Prod.ext rfl hr.2) hr.1 ?_ (by first | rfl | simp) ?_
  · intro c hc h76 v hv
    simp only [List.mem_cons, List.not_mem_nil, or_false] at hc
    rcases hc with rfl | rfl | rfl | rfl
    · cases hv; exact hd
    · cases hv
    · cases hv
    · cases hv; exact ha
  · exact ⟨fun h => absurd h (by decide), fun h => absurd (show labelB [] = true from h) (by decide)⟩
theorem fr3 (o d a b n : Int) (nm : Bs) (ho : o = 16) (hd : mayI d 68 = true) (ha : mayI a 65 = true) (hb : mayI b 66 = true) (hn : mayI n 83 = true ∨ True) (hl : labelB nm = true) : rightI ⟨o, d, 0, 0, n, []⟩ = true := by
  have hr := row_form o (by omega) (by omega)
  rw [if_neg (show ¬ o = 0 by omega), if_neg (show ¬ o ≤ 12 by omega), if_neg (show ¬ o ≤ 15 by omega), if_pos (show o = 16 by omega)] at hr
  refine right_of (x := ⟨o, d, 0, 0, n, []⟩) (w := (rowI o).1) (f := [68, 44, 32, 78]) (Prod.ext rfl hr.2) hr.1 ?_ (by first | rfl | simp) ?_
  · intro c hc h76 v hv
    simp only [List.mem_cons, List.not_mem_nil, or_false] at hc
    rcases hc with rfl | rfl | rfl | rfl
    · cases hv; exact hd
    · cases hv
    · cases hv
    · cases hv; rfl
  · exact ⟨fun h => absurd h (by decide), fun h => absurd (show labelB [] = true from h) (by decide)⟩
theorem fr4 (o d a b n : Int) (nm : Bs) (ho : o = 17) (hd : mayI d 68 = true) (ha : mayI a 65 = true) (hb : mayI b 66 = true) (hn : mayI n 83 = true ∨ True) (hl : labelB nm = true) : rightI ⟨o, d, 0, 0, 0, nm⟩ = true := by
  have hr := row_form o (by omega) (by omega)
  rw [if_neg (show ¬ o = 0 by omega), if_neg (show ¬ o ≤ 12 by omega), if_neg (show ¬ o ≤ 15 by omega), if_neg (show ¬ o = 16 by omega), if_pos (show o = 17 by omega)] at hr
  refine right_of (x := ⟨o, d, 0, 0, 0, nm⟩) (w := (rowI o).1) (f := [68, 44, 32, 76]) (Prod.ext rfl hr.2) hr.1 ?_ (by first | rfl | simp) ?_
  · intro c hc h76 v hv
    simp only [List.mem_cons, List.not_mem_nil, or_false] at hc
    rcases hc with rfl | rfl | rfl | rfl
    · cases hv; exact hd
    · cases hv
    · cases hv
    · exact absurd rfl h76
  · exact ⟨fun _ => hl, fun _ => by simp⟩
theorem fr5 (o d a b n : Int) (nm : Bs) (ho : o = 18) (hd : mayI d 68 = true) (ha : mayI a 65 = true) (hb : mayI b 66 = true) (hn : mayI n 83 = true) (hl : labelB nm = true) : rightI ⟨o, d, a, 0, n, []⟩ = true := by
  have hr := row_form o (by omega) (by omega)
  rw [if_neg (show ¬ o = 0 by omega), if_neg (show ¬ o ≤ 12 by omega), if_neg (show ¬ o ≤ 15 by omega), if_neg (show ¬ o = 16 by omega), if_neg (show ¬ o = 17 by omega), if_pos (show o ≤ 18 by omega)] at hr
  refine right_of (x := ⟨o, d, a, 0, n, []⟩) (w := (rowI o).1) (f := [68, 44, 32, 65, 44, 32, 83]) (Prod.ext rfl hr.2) hr.1 ?_ (by first | rfl | simp) ?_
  · intro c hc h76 v hv
    simp only [List.mem_cons, List.not_mem_nil, or_false] at hc
    rcases hc with rfl | rfl | rfl | rfl | rfl | rfl | rfl
    · cases hv; exact hd
    · cases hv
    · cases hv
    · cases hv; exact ha
    · cases hv
    · cases hv
    · cases hv; exact hn
  · exact ⟨fun h => absurd h (by decide), fun h => absurd (show labelB [] = true from h) (by decide)⟩
theorem fr6 (o d a b n : Int) (nm : Bs) (ho : o = 19) (hd : mayI d 68 = true) (ha : mayI a 65 = true) (hb : mayI b 66 = true) (hn : mayI n 83 = true) (hl : labelB nm = true) : rightI ⟨o, d, a, 0, n, []⟩ = true := by
  have hr := row_form o (by omega) (by omega)
  rw [if_neg (show ¬ o = 0 by omega), if_neg (show ¬ o ≤ 12 by omega), if_neg (show ¬ o ≤ 15 by omega), if_neg (show ¬ o = 16 by omega), if_neg (show ¬ o = 17 by omega), if_neg (show ¬ o ≤ 18 by omega), if_pos (show o = 19 by omega)] at hr
  refine right_of (x := ⟨o, d, a, 0, n, []⟩) (w := (rowI o).1) (f := [68, 44, 32, 83, 40, 65, 41]) (Prod.ext rfl hr.2) hr.1 ?_ (by first | rfl | simp) ?_
  · intro c hc h76 v hv
    simp only [List.mem_cons, List.not_mem_nil, or_false] at hc
    rcases hc with rfl | rfl | rfl | rfl | rfl | rfl | rfl
    · cases hv; exact hd
    · cases hv
    · cases hv
    · cases hv; exact hn
    · cases hv
    · cases hv; exact ha
    · cases hv
  · exact ⟨fun h => absurd h (by decide), fun h => absurd (show labelB [] = true from h) (by decide)⟩
theorem fr7 (o d a b n : Int) (nm : Bs) (ho : o = 20) (hd : mayI d 68 = true) (ha : mayI a 65 = true) (hb : mayI b 66 = true) (hn : mayI n 83 = true) (hl : labelB nm = true) : rightI ⟨o, 0, a, b, n, []⟩ = true := by
  have hr := row_form o (by omega) (by omega)
  rw [if_neg (show ¬ o = 0 by omega), if_neg (show ¬ o ≤ 12 by omega), if_neg (show ¬ o ≤ 15 by omega), if_neg (show ¬ o = 16 by omega), if_neg (show ¬ o = 17 by omega), if_neg (show ¬ o ≤ 18 by omega), if_neg (show ¬ o = 19 by omega), if_pos (show o = 20 by omega)] at hr
  refine right_of (x := ⟨o, 0, a, b, n, []⟩) (w := (rowI o).1) (f := [66, 44, 32, 83, 40, 65, 41]) (Prod.ext rfl hr.2) hr.1 ?_ (by first | rfl | simp) ?_
  · intro c hc h76 v hv
    simp only [List.mem_cons, List.not_mem_nil, or_false] at hc
    rcases hc with rfl | rfl | rfl | rfl | rfl | rfl | rfl
    · cases hv; exact hb
    · cases hv
    · cases hv
    · cases hv; exact hn
    · cases hv
    · cases hv; exact ha
    · cases hv
  · exact ⟨fun h => absurd h (by decide), fun h => absurd (show labelB [] = true from h) (by decide)⟩
theorem fr8 (o d a b n : Int) (nm : Bs) (ho : 21 ≤ o ∧ o ≤ 24) (hd : mayI d 68 = true) (ha : mayI a 65 = true) (hb : mayI b 66 = true) (hn : mayI n 83 = true ∨ True) (hl : labelB nm = true) : rightI ⟨o, 0, a, b, 0, nm⟩ = true := by
  have hr := row_form o (by omega) (by omega)
  rw [if_neg (show ¬ o = 0 by omega), if_neg (show ¬ o ≤ 12 by omega), if_neg (show ¬ o ≤ 15 by omega), if_neg (show ¬ o = 16 by omega), if_neg (show ¬ o = 17 by omega), if_neg (show ¬ o ≤ 18 by omega), if_neg (show ¬ o = 19 by omega), if_neg (show ¬ o = 20 by omega), if_pos (show o ≤ 24 by omega)] at hr
  refine right_of (x := ⟨o, 0, a, b, 0, nm⟩) (w := (rowI o).1) (f := [65, 44, 32, 66, 44, 32, 76]) (Prod.ext rfl hr.2) hr.1 ?_ (by first | rfl | simp) ?_
  · intro c hc h76 v hv
    simp only [List.mem_cons, List.not_mem_nil, or_false] at hc
    rcases hc with rfl | rfl | rfl | rfl | rfl | rfl | rfl
    · cases hv; exact ha
    · cases hv
    · cases hv
    · cases hv; exact hb
    · cases hv
    · cases hv
    · exact absurd rfl h76
  · exact ⟨fun _ => hl, fun _ => by simp⟩
theorem fr9 (o d a b n : Int) (nm : Bs) (ho : 25 ≤ o ∧ o ≤ 26) (hd : mayI d 68 = true) (ha : mayI a 65 = true) (hb : mayI b 66 = true) (hn : mayI n 83 = true ∨ True) (hl : labelB nm = true) : rightI ⟨o, 0, 0, 0, 0, nm⟩ = true := by
  have hr := row_form o (by omega) (by omega)
  rw [if_neg (show ¬ o = 0 by omega), if_neg (show ¬ o ≤ 12 by omega), if_neg (show ¬ o ≤ 15 by omega), if_neg (show ¬ o = 16 by omega), if_neg (show ¬ o = 17 by omega), if_neg (show ¬ o ≤ 18 by omega), if_neg (show ¬ o = 19 by omega), if_neg (show ¬ o = 20 by omega), if_neg (show ¬ o ≤ 24 by omega), if_pos (show o ≤ 26 by omega)] at hr
  refine right_of (x := ⟨o, 0, 0, 0, 0, nm⟩) (w := (rowI o).1) (f := [76]) (Prod.ext rfl hr.2) hr.1 ?_ (by first | rfl | simp) ?_
  · intro c hc h76 v hv
    simp only [List.mem_cons, List.not_mem_nil, or_false] at hc
    rcases hc with rfl
    · exact absurd rfl h76
  · exact ⟨fun _ => hl, fun _ => by simp⟩
theorem fr10 (o d a b n : Int) (nm : Bs) (ho : 27 ≤ o ∧ o ≤ 28) (hd : mayI d 68 = true) (ha : mayI a 65 = true) (hb : mayI b 66 = true) (hn : mayI n 83 = true ∨ True) (hl : labelB nm = true) : rightI ⟨o, 0, 0, 0, 0, []⟩ = true := by
  have hr := row_form o (by omega) (by omega)
  rw [if_neg (show ¬ o = 0 by omega), if_neg (show ¬ o ≤ 12 by omega), if_neg (show ¬ o ≤ 15 by omega), if_neg (show ¬ o = 16 by omega), if_neg (show ¬ o = 17 by omega), if_neg (show ¬ o ≤ 18 by omega), if_neg (show ¬ o = 19 by omega), if_neg (show ¬ o = 20 by omega), if_neg (show ¬ o ≤ 24 by omega), if_neg (show ¬ o ≤ 26 by omega)] at hr
  refine right_of (x := ⟨o, 0, 0, 0, 0, []⟩) (w := (rowI o).1) (f := []) (Prod.ext rfl hr.2) hr.1 ?_ (by first | rfl | simp) ?_
  · intro c hc h76 v hv
    cases hc
  · exact ⟨fun h => absurd h (by decide), fun h => absurd (show labelB [] = true from h) (by decide)⟩
theorem fit_right (x : Ins) : rightI (fitI x) = true := by
  have hk := ipick_range x.op 28 (by decide)
  have hs := ipick_range x.n 4095 (by decide)
  have hms : mayI (ipick x.n 4095 - 2047) 83 = true := by
    unfold mayI
    rw [if_neg (by decide), if_pos rfl]
    simp; omega
  have hlab := iname_ok x.n
  have hd := may_reg x.d 68 (by decide)
  have ha := may_reg x.a 65 (by decide)
  have hb := may_reg x.b 66 (by decide)
  unfold fitI
  dsimp only
  generalize ipick x.op 28 = k at *
  generalize ipick x.n 4095 - 2047 = s at *
  generalize iname x.n = nm at *
  generalize ipick x.d 32 = d at *
  generalize ipick x.a 32 = a at *
  generalize ipick x.b 32 = b at *
  by_cases h0 : 1 + k ≤ 12
  · rw [if_pos h0]; exact fr1 (1 + k) d a b 0 nm (by omega) hd ha hb (.inr trivial) hlab
  · rw [if_neg h0]
    by_cases h1 : 1 + k ≤ 15
    · rw [if_pos h1]; exact fr2 (1 + k) d a b 0 nm (by omega) hd ha hb (.inr trivial) hlab
    · rw [if_neg h1]
      by_cases h2 : 1 + k = 16
      · rw [if_pos h2]; exact fr3 (1 + k) d a b x.n nm (by omega) hd ha hb (.inr trivial) hlab
      · rw [if_neg h2]
        by_cases h3 : 1 + k = 17
        · rw [if_pos h3]; exact fr4 (1 + k) d a b 0 nm (by omega) hd ha hb (.inr trivial) hlab
        · rw [if_neg h3]
          by_cases h4 : 1 + k = 18 ∨ 1 + k = 19
          · rw [if_pos h4]
            rcases h4 with h18 | h19
            · exact fr5 (1 + k) d a b s nm (by omega) hd ha hb hms hlab
            · exact fr6 (1 + k) d a b s nm (by omega) hd ha hb hms hlab
          · rw [if_neg h4]
            by_cases h5 : 1 + k = 20
            · rw [if_pos h5]; exact fr7 (1 + k) d a b s nm (by omega) hd ha hb hms hlab
            · rw [if_neg h5]
              by_cases h6 : 1 + k ≤ 24
              · rw [if_pos h6]; exact fr8 (1 + k) d a b 0 nm (by omega) hd ha hb (.inr trivial) hlab
              · rw [if_neg h6]
                by_cases h7 : 1 + k ≤ 26
                · rw [if_pos h7]; exact fr9 (1 + k) d a b 0 nm (by omega) hd ha hb (.inr trivial) hlab
                · rw [if_neg h7]
                  exact fr10 (1 + k) d a b 0 nm (by omega) hd ha hb (.inr trivial) hlab
theorem fit_fits (x : Ins) (h : I64 x.n) : FitsI (fitI x) := by
  have hs := ipick_range x.n 4095 (by decide)
  obtain ⟨h0, h1⟩ := h
  unfold FitsI fitI
  dsimp only
  repeat' split
  all_goals (constructor <;> (dsimp only; omega))
theorem fit_name (x : Ins) : (fitI x).name.length ≤ 40 := by
  have h1 := (label_mem (iname_ok x.n)).2.2
  unfold fitI
  dsimp only
  repeat' split
  all_goals (first | exact h1 | exact Nat.zero_le _)
theorem ipick_any (c n : Int) (hc : I64 c) (h0 : 0 < n) (h1 : n ≤ 9223372036854775807) (w : World) :
    Calls Tryd.prog 15 #[.int .i64 c, .int .i64 n] w fun e w' => e = .returned (.int .i64 (ipick c n)) ∧ w = w' := by
  obtain ⟨l, u⟩ := hc
  unfold ipick
  by_cases hneg : c < 0
  · rw [if_pos hneg]
    have hn0 : (n == 0) = false := by simp; omega
    go_enter Tryd.func15, Tryd.ntmps15
    go_wp2_with fail
    go_ret
    exact ⟨ret_int (by show -((c + 1).tmod n) = _; rw [← Int.neg_tmod, Int.tmod_eq_emod_of_nonneg (by omega)]), rfl⟩
  · rw [if_neg hneg]
    have hneg' : 0 ≤ c := by omega
    go_enter Tryd.func15, Tryd.ntmps15
    go_wp2_with fail
    go_ret
    exact ⟨rfl, rfl⟩
theorem ipre_at : ∀ j : Fin 8, ([Value.string ⟨#[109, 97, 105, 110]⟩, Value.string ⟨#[102]⟩, Value.string ⟨#[76, 49]⟩, Value.string ⟨#[46, 120]⟩, Value.string ⟨#[97, 95, 98]⟩, Value.string ⟨#[90]⟩, Value.string ⟨#[95]⟩, Value.string ⟨#[120, 49]⟩] : List Value)[j.val]'(by simp) = .string (strOf (ipres.getD j.val [])) := by
  intro j
  obtain ⟨j, hj⟩ := j
  have : j = 0 ∨ j = 1 ∨ j = 2 ∨ j = 3 ∨ j = 4 ∨ j = 5 ∨ j = 6 ∨ j = 7 := by omega
  rcases this with rfl | rfl | rfl | rfl | rfl | rfl | rfl | rfl <;> rfl
theorem isuf_at : ∀ j : Fin 5, ([Value.string ⟨#[]⟩, Value.string ⟨#[48]⟩, Value.string ⟨#[46, 101, 110, 100]⟩, Value.string ⟨#[95, 50]⟩, Value.string ⟨#[81]⟩] : List Value)[j.val]'(by simp) = .string (strOf (isufs.getD j.val [])) := by
  intro j
  obtain ⟨j, hj⟩ := j
  have : j = 0 ∨ j = 1 ∨ j = 2 ∨ j = 3 ∨ j = 4 := by omega
  rcases this with rfl | rfl | rfl | rfl | rfl <;> rfl
theorem iname_any (c : Int) (hc : I64 c) (w : World) :
    Calls Tryd.prog 20 #[.int .i64 c] w fun e w' => e = .returned (.string (strOf (iname c))) ∧ Below w.heap.size w w' := by
  have hk := ipick_range c 40 (by decide)
  have E : Hid (iname c = ipres.getD (ipick c 40 % 8).toNat [] ++ isufs.getD (ipick c 40 / 8).toNat []) := by
    show _ = _
    unfold iname inameN
    congr 2
    · omega
    · omega
  rw [E.out]
  have HK : Hid (∀ w, Calls Tryd.prog 15 #[.int .i64 c, .int .i64 40] w fun e w' => e = .returned (.int .i64 (ipick c 40)) ∧ w = w') := fun w => ipick_any c 40 hc (by decide) (by decide) w
  clear hc E
  generalize ipick c 40 = k at *
  obtain ⟨hk0, hk1⟩ := hk
  have hm0 : 0 ≤ k % 8 := Int.emod_nonneg _ (by decide)
  have hm1 : k % 8 < 8 := Int.emod_lt_of_pos _ (by decide)
  have hd0 : 0 ≤ k / 8 := by omega
  have hd1 : k / 8 < 5 := by omega
  have hm2 : (k % 8).toNat < 8 := by omega
  have hd2 : (k / 8).toNat < 5 := by omega
  have HLP := ipre_at ⟨(k % 8).toNat, hm2⟩
  have HLD := isuf_at ⟨(k / 8).toNat, hd2⟩
  dsimp only at HLP HLD
  have hl1 : (ipres.getD (k % 8).toNat []).length ≤ 6 := by
    have h : ∀ j : Fin 8, (ipres.getD j.val []).length ≤ 6 := by decide
    exact h ⟨_, hm2⟩
  have hl2 : (isufs.getD (k / 8).toNat []).length ≤ 6 := by
    have h : ∀ j : Fin 5, (isufs.getD j.val []).length ≤ 6 := by decide
    exact h ⟨_, hd2⟩
  generalize ipres.getD (k % 8).toNat [] = pf at *
  generalize isufs.getD (k / 8).toNat [] = sf at *
  have hno : ¬ ((strOf pf).size + (strOf sf).size > 9223372036854775807) := by
    show ¬ (pf.toArray.size + sf.toArray.size > _)
    simp; omega
  have hsb : Hid (strOf pf ++ strOf sf = strOf (pf ++ sf)) := by
    show _ = _
    apply ByteArray.ext
    simp [strOf]
  generalize hpf : strOf pf = pb at *
  generalize hsf : strOf sf = sb at *
  have HSF := Lib.hid hsf
  have HPF := Lib.hid hpf
  clear hsf hpf hl1 hl2
  go_enter Tryd.func20, Tryd.ntmps20
  go_wp2_with fail
  refine (HK.out _).mono ?_
  rintro r w2 ⟨rfl, rfl⟩
  go_wp2_with fail
  go_region
  all_goals go_wp2_with fail
  all_goals
    go_ret
    refine ⟨?_, by repeat (first | exact Below.refl _ _ | refine Below.drew ?_ | refine Below.alloc ?_ (by simp) _)⟩
    exact congrArg (fun s => Ending.returned (Value.string s)) hsb.out
end Go.Proofs.YtgdnnaiidmfncaaDoor

namespace Go.Proofs.YtgdnnaiidmfncaaDoor
open Go.RowKit
set_option maxHeartbeats 4000000
set_option maxRecDepth 100000

theorem set6b (B0 B : Nat) (a w : World) (h : Below B0 a w) (hB : B0 ≤ B) (v0 v1 v2 v3 v4 v5 : Value) : Below B0 a ((((((w.setCell ⟨B, 0, none⟩ v0).setCell ⟨B, 1, none⟩ v1).setCell ⟨B, 2, none⟩ v2).setCell ⟨B, 3, none⟩ v3).setCell ⟨B, 4, none⟩ v4).setCell ⟨B, 5, none⟩ v5) :=
  zbelow_set (zbelow_set (zbelow_set (zbelow_set (zbelow_set (zbelow_set h hB _ _) hB _ _) hB _ _) hB _ _) hB _ _) hB _ _
end Go.Proofs.YtgdnnaiidmfncaaDoor

namespace Go.Proofs.YtgdnnaiidmfncaaDoor
open Go.RowKit
set_option maxHeartbeats 4000000
set_option maxRecDepth 100000

theorem fit_c1 (x : Ins) (k d a b s : Int) (nm : Bs) (hk0 : 0 ≤ k) (hk1 : k < 28) (hs0 : 0 ≤ s) (hs1 : s < 4095)
    (HK : Hid (∀ w, Calls Tryd.prog 15 #[.int .i64 x.op, .int .i64 28] w fun e w' => e = .returned (.int .i64 k) ∧ w = w'))
    (HD : Hid (∀ w, Calls Tryd.prog 15 #[.int .i64 x.d, .int .i64 32] w fun e w' => e = .returned (.int .i64 d) ∧ w = w'))
    (HA : Hid (∀ w, Calls Tryd.prog 15 #[.int .i64 x.a, .int .i64 32] w fun e w' => e = .returned (.int .i64 a) ∧ w = w'))
    (HB : Hid (∀ w, Calls Tryd.prog 15 #[.int .i64 x.b, .int .i64 32] w fun e w' => e = .returned (.int .i64 b) ∧ w = w'))
    (HS : Hid (∀ w, Calls Tryd.prog 15 #[.int .i64 x.n, .int .i64 4095] w fun e w' => e = .returned (.int .i64 s) ∧ w = w'))
    (HN : Hid (∀ w, Calls Tryd.prog 20 #[.int .i64 x.n] w fun e w' => e = .returned (.string (strOf nm)) ∧ Below w.heap.size w w'))
    (h0 : (1 + k ≤ 12)) (w : World) :
    Calls Tryd.prog 5 #[insV x] w fun e w' => e = .returned (insV ⟨1 + k, d, a, b, 0, []⟩) ∧ Below w.heap.size w w' := by
  have HO0 := Lib.hid (OwnAt.new w (insCells x) 23)
  have hs1' : (w.alloc (.cells (insCells x).toArray 23)).heap.size = w.heap.size + 1 := by simp
  have HR0 := Lib.hid (show OwnAt ((w.alloc (.cells (insCells x).toArray 23)).alloc (.cells (insCells (zeroI 0)).toArray 23)) (w.heap.size + 1) (insCells (zeroI 0)) 23 by
    have := OwnAt.new (w.alloc (.cells (insCells x).toArray 23)) (insCells (zeroI 0)) 23
    rw [hs1'] at this; exact this)
  have HO1 := Lib.hid (HO0.out.old ((Below.refl _ _).alloc (Nat.le_refl _) (.cells (insCells (zeroI 0)).toArray 23)))
  have HB1 := Lib.hid (((Below.refl w.heap.size w).alloc (Nat.le_refl _) (.cells (insCells x).toArray 23)).alloc (by simp) (.cells (insCells (zeroI 0)).toArray 23))
  have hs2 : ((w.alloc (.cells (insCells x).toArray 23)).alloc (.cells (insCells (zeroI 0)).toArray 23)).heap.size = w.heap.size + 1 + 1 := by simp
  unfold insV
  go_enter Tryd.func5, Tryd.ntmps5
  go_wp2_with fail
  refine (HK.out _).mono ?_
  rintro e w2 ⟨rfl, hw2⟩
  have HO2 : Hid (OwnAt w2 w.heap.size (insCells x) 23) := Lib.hid (by rw [← hw2]; exact HO1.out)
  have HR2 : Hid (OwnAt w2 (w.heap.size + 1) (insCells (zeroI 0)) 23) := Lib.hid (by rw [← hw2]; exact HR0.out)
  have HB2 : Hid (Below w.heap.size w w2) := Lib.hid (by rw [← hw2]; exact HB1.out)
  have hs3 : w2.heap.size = w.heap.size + 1 + 1 := by rw [← hw2]; exact hs2
  clear hw2 HO0 hs1' HR0 HO1 HB1 hs2
  have HX := Lib.hid (show OwnAt (w2.alloc (.cells #[.int .i64 (1 + k), .int .i64 0, .int .i64 0, .int .i64 0, .int .i64 0, .string ⟨#[]⟩] 23)) w2.heap.size (insCells (zeroI (1 + k))) 23 from OwnAt.new w2 (insCells (zeroI (1 + k))) 23)
  rw [hs3] at HX
  have HO3 := Lib.hid (HO2.out.old ((Below.refl _ _).alloc (Nat.le_refl _) (.cells #[.int .i64 (1 + k), .int .i64 0, .int .i64 0, .int .i64 0, .int .i64 0, .string ⟨#[]⟩] 23)))
  have HR3 := Lib.hid (HR2.out.old ((Below.refl _ _).alloc (Nat.le_refl _) (.cells #[.int .i64 (1 + k), .int .i64 0, .int .i64 0, .int .i64 0, .int .i64 0, .string ⟨#[]⟩] 23)))
  have HB3 := Lib.hid (HB2.out.alloc HB2.out.size (.cells #[.int .i64 (1 + k), .int .i64 0, .int .i64 0, .int .i64 0, .int .i64 0, .string ⟨#[]⟩] 23))
  have il := HO2.out.lt
  have i1 := HO2.out.at 1 _ rfl
  go_wp2_with fail
  obtain ⟨W3, hW3⟩ : ∃ W3, w2.alloc (.cells #[.int .i64 (1 + k), .int .i64 0, .int .i64 0, .int .i64 0, .int .i64 0, .string ⟨#[]⟩] 23) = W3 := ⟨_, rfl⟩
  rw [hW3] at HX HO3 HR3 HB3 ⊢
  clear hW3 HO2 HR2 HB2 il i1 hs3
  have i1 := HO3.out.at 1 _ rfl
  have i2 := HO3.out.at 2 _ rfl
  have i3 := HO3.out.at 3 _ rfl
  have i4 := HO3.out.at 4 _ rfl
  have x0 : W3.cell? ⟨w.heap.size + 1 + 1, 0, none⟩ = some (.int .i64 (1 + k)) := HX.out.at 0 _ rfl
  have fx0 := HX.out.fz 0
  have x1 : W3.cell? ⟨w.heap.size + 1 + 1, 1, none⟩ = some (.int .i64 0) := HX.out.at 1 _ rfl
  have fx1 := HX.out.fz 1
  have x2 : W3.cell? ⟨w.heap.size + 1 + 1, 2, none⟩ = some (.int .i64 0) := HX.out.at 2 _ rfl
  have fx2 := HX.out.fz 2
  have x3 : W3.cell? ⟨w.heap.size + 1 + 1, 3, none⟩ = some (.int .i64 0) := HX.out.at 3 _ rfl
  have fx3 := HX.out.fz 3
  have x4 : W3.cell? ⟨w.heap.size + 1 + 1, 4, none⟩ = some (.int .i64 0) := HX.out.at 4 _ rfl
  have fx4 := HX.out.fz 4
  have x5 : W3.cell? ⟨w.heap.size + 1 + 1, 5, none⟩ = some (.string ⟨#[]⟩) := HX.out.at 5 _ rfl
  have fx5 := HX.out.fz 5
  have g0 := HR3.out.at 0 _ rfl
  have fg0 := HR3.out.fz 0
  have g1 := HR3.out.at 1 _ rfl
  have fg1 := HR3.out.fz 1
  have g2 := HR3.out.at 2 _ rfl
  have fg2 := HR3.out.fz 2
  have g3 := HR3.out.at 3 _ rfl
  have fg3 := HR3.out.fz 3
  have g4 := HR3.out.at 4 _ rfl
  have fg4 := HR3.out.fz 4
  have g5 := HR3.out.at 5 _ rfl
  have fg5 := HR3.out.fz 5
  have xl := HX.out.lt
  refine (HD.out _).mono ?_
  rintro e w4 ⟨rfl, hw4⟩
  subst hw4
  go_wp2_with fail
  refine (HA.out _).mono ?_
  rintro e w4 ⟨rfl, hw4⟩
  subst hw4
  go_wp2_with fail
  refine (HB.out _).mono ?_
  rintro e w4 ⟨rfl, hw4⟩
  subst hw4
  go_wp2_with fail
  refine (HS.out _).mono ?_
  rintro e w4 ⟨rfl, hw4⟩
  subst hw4
  go_wp2_with fail
  have HRe := Lib.hid (((HR3.out.other (show w.heap.size + 1 ≠ w.heap.size + 1 + 1 by omega) 1 (.int .i64 d)).other (show w.heap.size + 1 ≠ w.heap.size + 1 + 1 by omega) 2 (.int .i64 a)).other (show w.heap.size + 1 ≠ w.heap.size + 1 + 1 by omega) 3 (.int .i64 b))
  have HBe := Lib.hid (zbelow_set (zbelow_set (zbelow_set HB3.out (show w.heap.size ≤ w.heap.size + 1 + 1 by omega) 1 (.int .i64 d)) (show w.heap.size ≤ w.heap.size + 1 + 1 by omega) 2 (.int .i64 a)) (show w.heap.size ≤ w.heap.size + 1 + 1 by omega) 3 (.int .i64 b))
  have HE := Lib.hid ((((((HRe.out.set 0 (.int .i64 (1 + k))).set 1 (.int .i64 d)).set 2 (.int .i64 a)).set 3 (.int .i64 b)).set 4 (.int .i64 0)).set 5 (.string ⟨#[]⟩))
  have e0 := HE.out.at 0 _ rfl
  have e1 := HE.out.at 1 _ rfl
  have e2 := HE.out.at 2 _ rfl
  have e3 := HE.out.at 3 _ rfl
  have e4 := HE.out.at 4 _ rfl
  have e5 := HE.out.at 5 _ rfl
  exact bodyPost_ret (v := .agg #[.int .i64 (1 + k), .int .i64 d, .int .i64 a, .int .i64 b, .int .i64 0, .string ⟨#[]⟩]) (by simp [results, Tryd.results5, go_sem, e0, e1, e2, e3, e4, e5]) rfl ⟨rfl, set6b _ _ _ _ HBe.out (by omega) _ _ _ _ _ _⟩
end Go.Proofs.YtgdnnaiidmfncaaDoor

namespace Go.Proofs.YtgdnnaiidmfncaaDoor
open Go.RowKit
set_option maxHeartbeats 4000000
set_option maxRecDepth 100000

theorem fit_c2 (x : Ins) (k d a b s : Int) (nm : Bs) (hk0 : 0 ≤ k) (hk1 : k < 28) (hs0 : 0 ≤ s) (hs1 : s < 4095)
    (HK : Hid (∀ w, Calls Tryd.prog 15 #[.int .i64 x.op, .int .i64 28] w fun e w' => e = .returned (.int .i64 k) ∧ w = w'))
    (HD : Hid (∀ w, Calls Tryd.prog 15 #[.int .i64 x.d, .int .i64 32] w fun e w' => e = .returned (.int .i64 d) ∧ w = w'))
    (HA : Hid (∀ w, Calls Tryd.prog 15 #[.int .i64 x.a, .int .i64 32] w fun e w' => e = .returned (.int .i64 a) ∧ w = w'))
    (HB : Hid (∀ w, Calls Tryd.prog 15 #[.int .i64 x.b, .int .i64 32] w fun e w' => e = .returned (.int .i64 b) ∧ w = w'))
    (HS : Hid (∀ w, Calls Tryd.prog 15 #[.int .i64 x.n, .int .i64 4095] w fun e w' => e = .returned (.int .i64 s) ∧ w = w'))
    (HN : Hid (∀ w, Calls Tryd.prog 20 #[.int .i64 x.n] w fun e w' => e = .returned (.string (strOf nm)) ∧ Below w.heap.size w w'))
    (h0 : (1 + k ≤ 15)) (h1 : (12 < 1 + k)) (w : World) :
    Calls Tryd.prog 5 #[insV x] w fun e w' => e = .returned (insV ⟨1 + k, d, a, 0, 0, []⟩) ∧ Below w.heap.size w w' := by
  have HO0 := Lib.hid (OwnAt.new w (insCells x) 23)
  have hs1' : (w.alloc (.cells (insCells x).toArray 23)).heap.size = w.heap.size + 1 := by simp
  have HR0 := Lib.hid (show OwnAt ((w.alloc (.cells (insCells x).toArray 23)).alloc (.cells (insCells (zeroI 0)).toArray 23)) (w.heap.size + 1) (insCells (zeroI 0)) 23 by
    have := OwnAt.new (w.alloc (.cells (insCells x).toArray 23)) (insCells (zeroI 0)) 23
    rw [hs1'] at this; exact this)
  have HO1 := Lib.hid (HO0.out.old ((Below.refl _ _).alloc (Nat.le_refl _) (.cells (insCells (zeroI 0)).toArray 23)))
  have HB1 := Lib.hid (((Below.refl w.heap.size w).alloc (Nat.le_refl _) (.cells (insCells x).toArray 23)).alloc (by simp) (.cells (insCells (zeroI 0)).toArray 23))
  have hs2 : ((w.alloc (.cells (insCells x).toArray 23)).alloc (.cells (insCells (zeroI 0)).toArray 23)).heap.size = w.heap.size + 1 + 1 := by simp
  unfold insV
  go_enter Tryd.func5, Tryd.ntmps5
  go_wp2_with fail
  refine (HK.out _).mono ?_
  rintro e w2 ⟨rfl, hw2⟩
  have HO2 : Hid (OwnAt w2 w.heap.size (insCells x) 23) := Lib.hid (by rw [← hw2]; exact HO1.out)
  have HR2 : Hid (OwnAt w2 (w.heap.size + 1) (insCells (zeroI 0)) 23) := Lib.hid (by rw [← hw2]; exact HR0.out)
  have HB2 : Hid (Below w.heap.size w w2) := Lib.hid (by rw [← hw2]; exact HB1.out)
  have hs3 : w2.heap.size = w.heap.size + 1 + 1 := by rw [← hw2]; exact hs2
  clear hw2 HO0 hs1' HR0 HO1 HB1 hs2
  have HX := Lib.hid (show OwnAt (w2.alloc (.cells #[.int .i64 (1 + k), .int .i64 0, .int .i64 0, .int .i64 0, .int .i64 0, .string ⟨#[]⟩] 23)) w2.heap.size (insCells (zeroI (1 + k))) 23 from OwnAt.new w2 (insCells (zeroI (1 + k))) 23)
  rw [hs3] at HX
  have HO3 := Lib.hid (HO2.out.old ((Below.refl _ _).alloc (Nat.le_refl _) (.cells #[.int .i64 (1 + k), .int .i64 0, .int .i64 0, .int .i64 0, .int .i64 0, .string ⟨#[]⟩] 23)))
  have HR3 := Lib.hid (HR2.out.old ((Below.refl _ _).alloc (Nat.le_refl _) (.cells #[.int .i64 (1 + k), .int .i64 0, .int .i64 0, .int .i64 0, .int .i64 0, .string ⟨#[]⟩] 23)))
  have HB3 := Lib.hid (HB2.out.alloc HB2.out.size (.cells #[.int .i64 (1 + k), .int .i64 0, .int .i64 0, .int .i64 0, .int .i64 0, .string ⟨#[]⟩] 23))
  have il := HO2.out.lt
  have i1 := HO2.out.at 1 _ rfl
  go_wp2_with fail
  obtain ⟨W3, hW3⟩ : ∃ W3, w2.alloc (.cells #[.int .i64 (1 + k), .int .i64 0, .int .i64 0, .int .i64 0, .int .i64 0, .string ⟨#[]⟩] 23) = W3 := ⟨_, rfl⟩
  rw [hW3] at HX HO3 HR3 HB3 ⊢
  clear hW3 HO2 HR2 HB2 il i1 hs3
  have i1 := HO3.out.at 1 _ rfl
  have i2 := HO3.out.at 2 _ rfl
  have i3 := HO3.out.at 3 _ rfl
  have i4 := HO3.out.at 4 _ rfl
  have x0 : W3.cell? ⟨w.heap.size + 1 + 1, 0, none⟩ = some (.int .i64 (1 + k)) := HX.out.at 0 _ rfl
  have fx0 := HX.out.fz 0
  have x1 : W3.cell? ⟨w.heap.size + 1 + 1, 1, none⟩ = some (.int .i64 0) := HX.out.at 1 _ rfl
  have fx1 := HX.out.fz 1
  have x2 : W3.cell? ⟨w.heap.size + 1 + 1, 2, none⟩ = some (.int .i64 0) := HX.out.at 2 _ rfl
  have fx2 := HX.out.fz 2
  have x3 : W3.cell? ⟨w.heap.size + 1 + 1, 3, none⟩ = some (.int .i64 0) := HX.out.at 3 _ rfl
  have fx3 := HX.out.fz 3
  have x4 : W3.cell? ⟨w.heap.size + 1 + 1, 4, none⟩ = some (.int .i64 0) := HX.out.at 4 _ rfl
  have fx4 := HX.out.fz 4
  have x5 : W3.cell? ⟨w.heap.size + 1 + 1, 5, none⟩ = some (.string ⟨#[]⟩) := HX.out.at 5 _ rfl
  have fx5 := HX.out.fz 5
  have g0 := HR3.out.at 0 _ rfl
  have fg0 := HR3.out.fz 0
  have g1 := HR3.out.at 1 _ rfl
  have fg1 := HR3.out.fz 1
  have g2 := HR3.out.at 2 _ rfl
  have fg2 := HR3.out.fz 2
  have g3 := HR3.out.at 3 _ rfl
  have fg3 := HR3.out.fz 3
  have g4 := HR3.out.at 4 _ rfl
  have fg4 := HR3.out.fz 4
  have g5 := HR3.out.at 5 _ rfl
  have fg5 := HR3.out.fz 5
  have xl := HX.out.lt
  refine (HD.out _).mono ?_
  rintro e w4 ⟨rfl, hw4⟩
  subst hw4
  go_wp2_with fail
  refine (HA.out _).mono ?_
  rintro e w4 ⟨rfl, hw4⟩
  subst hw4
  go_wp2_with fail
  refine (HB.out _).mono ?_
  rintro e w4 ⟨rfl, hw4⟩
  subst hw4
  go_wp2_with fail
  refine (HS.out _).mono ?_
  rintro e w4 ⟨rfl, hw4⟩
  subst hw4
  go_wp2_with fail
  have HRe := Lib.hid ((HR3.out.other (show w.heap.size + 1 ≠ w.heap.size + 1 + 1 by omega) 1 (.int .i64 d)).other (show w.heap.size + 1 ≠ w.heap.size + 1 + 1 by omega) 2 (.int .i64 a))
  have HBe := Lib.hid (zbelow_set (zbelow_set HB3.out (show w.heap.size ≤ w.heap.size + 1 + 1 by omega) 1 (.int .i64 d)) (show w.heap.size ≤ w.heap.size + 1 + 1 by omega) 2 (.int .i64 a))
  have HE := Lib.hid ((((((HRe.out.set 0 (.int .i64 (1 + k))).set 1 (.int .i64 d)).set 2 (.int .i64 a)).set 3 (.int .i64 0)).set 4 (.int .i64 0)).set 5 (.string ⟨#[]⟩))
  have e0 := HE.out.at 0 _ rfl
  have e1 := HE.out.at 1 _ rfl
  have e2 := HE.out.at 2 _ rfl
  have e3 := HE.out.at 3 _ rfl
  have e4 := HE.out.at 4 _ rfl
  have e5 := HE.out.at 5 _ rfl
  exact bodyPost_ret (v := .agg #[.int .i64 (1 + k), .int .i64 d, .int .i64 a, .int .i64 0, .int .i64 0, .string ⟨#[]⟩]) (by simp [results, Tryd.results5, go_sem, e0, e1, e2, e3, e4, e5]) rfl ⟨rfl, set6b _ _ _ _ HBe.out (by omega) _ _ _ _ _ _⟩
end Go.Proofs.YtgdnnaiidmfncaaDoor

namespace Go.Proofs.YtgdnnaiidmfncaaDoor
open Go.RowKit
set_option maxHeartbeats 4000000
set_option maxRecDepth 100000

theorem fit_c3 (x : Ins) (k d a b s : Int) (nm : Bs) (hk0 : 0 ≤ k) (hk1 : k < 28) (hs0 : 0 ≤ s) (hs1 : s < 4095)
    (HK : Hid (∀ w, Calls Tryd.prog 15 #[.int .i64 x.op, .int .i64 28] w fun e w' => e = .returned (.int .i64 k) ∧ w = w'))
    (HD : Hid (∀ w, Calls Tryd.prog 15 #[.int .i64 x.d, .int .i64 32] w fun e w' => e = .returned (.int .i64 d) ∧ w = w'))
    (HA : Hid (∀ w, Calls Tryd.prog 15 #[.int .i64 x.a, .int .i64 32] w fun e w' => e = .returned (.int .i64 a) ∧ w = w'))
    (HB : Hid (∀ w, Calls Tryd.prog 15 #[.int .i64 x.b, .int .i64 32] w fun e w' => e = .returned (.int .i64 b) ∧ w = w'))
    (HS : Hid (∀ w, Calls Tryd.prog 15 #[.int .i64 x.n, .int .i64 4095] w fun e w' => e = .returned (.int .i64 s) ∧ w = w'))
    (HN : Hid (∀ w, Calls Tryd.prog 20 #[.int .i64 x.n] w fun e w' => e = .returned (.string (strOf nm)) ∧ Below w.heap.size w w'))
    (h0 : ((1 + k == 16) = true)) (h1 : (12 < 1 + k)) (h2 : (15 < 1 + k)) (w : World) :
    Calls Tryd.prog 5 #[insV x] w fun e w' => e = .returned (insV ⟨1 + k, d, 0, 0, x.n, []⟩) ∧ Below w.heap.size w w' := by
  have HO0 := Lib.hid (OwnAt.new w (insCells x) 23)
  have hs1' : (w.alloc (.cells (insCells x).toArray 23)).heap.size = w.heap.size + 1 := by simp
  have HR0 := Lib.hid (show OwnAt ((w.alloc (.cells (insCells x).toArray 23)).alloc (.cells (insCells (zeroI 0)).toArray 23)) (w.heap.size + 1) (insCells (zeroI 0)) 23 by
    have := OwnAt.new (w.alloc (.cells (insCells x).toArray 23)) (insCells (zeroI 0)) 23
    rw [hs1'] at this; exact this)
  have HO1 := Lib.hid (HO0.out.old ((Below.refl _ _).alloc (Nat.le_refl _) (.cells (insCells (zeroI 0)).toArray 23)))
  have HB1 := Lib.hid (((Below.refl w.heap.size w).alloc (Nat.le_refl _) (.cells (insCells x).toArray 23)).alloc (by simp) (.cells (insCells (zeroI 0)).toArray 23))
  have hs2 : ((w.alloc (.cells (insCells x).toArray 23)).alloc (.cells (insCells (zeroI 0)).toArray 23)).heap.size = w.heap.size + 1 + 1 := by simp
  unfold insV
  go_enter Tryd.func5, Tryd.ntmps5
  go_wp2_with fail
  refine (HK.out _).mono ?_
  rintro e w2 ⟨rfl, hw2⟩
  have HO2 : Hid (OwnAt w2 w.heap.size (insCells x) 23) := Lib.hid (by rw [← hw2]; exact HO1.out)
  have HR2 : Hid (OwnAt w2 (w.heap.size + 1) (insCells (zeroI 0)) 23) := Lib.hid (by rw [← hw2]; exact HR0.out)
  have HB2 : Hid (Below w.heap.size w w2) := Lib.hid (by rw [← hw2]; exact HB1.out)
  have hs3 : w2.heap.size = w.heap.size + 1 + 1 := by rw [← hw2]; exact hs2
  clear hw2 HO0 hs1' HR0 HO1 HB1 hs2
  have HX := Lib.hid (show OwnAt (w2.alloc (.cells #[.int .i64 (1 + k), .int .i64 0, .int .i64 0, .int .i64 0, .int .i64 0, .string ⟨#[]⟩] 23)) w2.heap.size (insCells (zeroI (1 + k))) 23 from OwnAt.new w2 (insCells (zeroI (1 + k))) 23)
  rw [hs3] at HX
  have HO3 := Lib.hid (HO2.out.old ((Below.refl _ _).alloc (Nat.le_refl _) (.cells #[.int .i64 (1 + k), .int .i64 0, .int .i64 0, .int .i64 0, .int .i64 0, .string ⟨#[]⟩] 23)))
  have HR3 := Lib.hid (HR2.out.old ((Below.refl _ _).alloc (Nat.le_refl _) (.cells #[.int .i64 (1 + k), .int .i64 0, .int .i64 0, .int .i64 0, .int .i64 0, .string ⟨#[]⟩] 23)))
  have HB3 := Lib.hid (HB2.out.alloc HB2.out.size (.cells #[.int .i64 (1 + k), .int .i64 0, .int .i64 0, .int .i64 0, .int .i64 0, .string ⟨#[]⟩] 23))
  have il := HO2.out.lt
  have i1 := HO2.out.at 1 _ rfl
  go_wp2_with fail
  obtain ⟨W3, hW3⟩ : ∃ W3, w2.alloc (.cells #[.int .i64 (1 + k), .int .i64 0, .int .i64 0, .int .i64 0, .int .i64 0, .string ⟨#[]⟩] 23) = W3 := ⟨_, rfl⟩
  rw [hW3] at HX HO3 HR3 HB3 ⊢
  clear hW3 HO2 HR2 HB2 il i1 hs3
  have i1 := HO3.out.at 1 _ rfl
  have i2 := HO3.out.at 2 _ rfl
  have i3 := HO3.out.at 3 _ rfl
  have i4 := HO3.out.at 4 _ rfl
  have x0 : W3.cell? ⟨w.heap.size + 1 + 1, 0, none⟩ = some (.int .i64 (1 + k)) := HX.out.at 0 _ rfl
  have fx0 := HX.out.fz 0
  have x1 : W3.cell? ⟨w.heap.size + 1 + 1, 1, none⟩ = some (.int .i64 0) := HX.out.at 1 _ rfl
  have fx1 := HX.out.fz 1
  have x2 : W3.cell? ⟨w.heap.size + 1 + 1, 2, none⟩ = some (.int .i64 0) := HX.out.at 2 _ rfl
  have fx2 := HX.out.fz 2
  have x3 : W3.cell? ⟨w.heap.size + 1 + 1, 3, none⟩ = some (.int .i64 0) := HX.out.at 3 _ rfl
  have fx3 := HX.out.fz 3
  have x4 : W3.cell? ⟨w.heap.size + 1 + 1, 4, none⟩ = some (.int .i64 0) := HX.out.at 4 _ rfl
  have fx4 := HX.out.fz 4
  have x5 : W3.cell? ⟨w.heap.size + 1 + 1, 5, none⟩ = some (.string ⟨#[]⟩) := HX.out.at 5 _ rfl
  have fx5 := HX.out.fz 5
  have g0 := HR3.out.at 0 _ rfl
  have fg0 := HR3.out.fz 0
  have g1 := HR3.out.at 1 _ rfl
  have fg1 := HR3.out.fz 1
  have g2 := HR3.out.at 2 _ rfl
  have fg2 := HR3.out.fz 2
  have g3 := HR3.out.at 3 _ rfl
  have fg3 := HR3.out.fz 3
  have g4 := HR3.out.at 4 _ rfl
  have fg4 := HR3.out.fz 4
  have g5 := HR3.out.at 5 _ rfl
  have fg5 := HR3.out.fz 5
  have xl := HX.out.lt
  refine (HD.out _).mono ?_
  rintro e w4 ⟨rfl, hw4⟩
  subst hw4
  go_wp2_with fail
  refine (HA.out _).mono ?_
  rintro e w4 ⟨rfl, hw4⟩
  subst hw4
  go_wp2_with fail
  refine (HB.out _).mono ?_
  rintro e w4 ⟨rfl, hw4⟩
  subst hw4
  go_wp2_with fail
  refine (HS.out _).mono ?_
  rintro e w4 ⟨rfl, hw4⟩
  subst hw4
  go_wp2_with fail
  have HRe := Lib.hid ((HR3.out.other (show w.heap.size + 1 ≠ w.heap.size + 1 + 1 by omega) 1 (.int .i64 d)).other (show w.heap.size + 1 ≠ w.heap.size + 1 + 1 by omega) 4 (.int .i64 x.n))
  have HBe := Lib.hid (zbelow_set (zbelow_set HB3.out (show w.heap.size ≤ w.heap.size + 1 + 1 by omega) 1 (.int .i64 d)) (show w.heap.size ≤ w.heap.size + 1 + 1 by omega) 4 (.int .i64 x.n))
  have HE := Lib.hid ((((((HRe.out.set 0 (.int .i64 (1 + k))).set 1 (.int .i64 d)).set 2 (.int .i64 0)).set 3 (.int .i64 0)).set 4 (.int .i64 x.n)).set 5 (.string ⟨#[]⟩))
  have e0 := HE.out.at 0 _ rfl
  have e1 := HE.out.at 1 _ rfl
  have e2 := HE.out.at 2 _ rfl
  have e3 := HE.out.at 3 _ rfl
  have e4 := HE.out.at 4 _ rfl
  have e5 := HE.out.at 5 _ rfl
  exact bodyPost_ret (v := .agg #[.int .i64 (1 + k), .int .i64 d, .int .i64 0, .int .i64 0, .int .i64 x.n, .string ⟨#[]⟩]) (by simp [results, Tryd.results5, go_sem, e0, e1, e2, e3, e4, e5]) rfl ⟨rfl, set6b _ _ _ _ HBe.out (by omega) _ _ _ _ _ _⟩
end Go.Proofs.YtgdnnaiidmfncaaDoor

namespace Go.Proofs.YtgdnnaiidmfncaaDoor
open Go.RowKit
set_option maxHeartbeats 4000000
set_option maxRecDepth 100000

theorem fit_c4 (x : Ins) (k d a b s : Int) (nm : Bs) (hk0 : 0 ≤ k) (hk1 : k < 28) (hs0 : 0 ≤ s) (hs1 : s < 4095)
    (HK : Hid (∀ w, Calls Tryd.prog 15 #[.int .i64 x.op, .int .i64 28] w fun e w' => e = .returned (.int .i64 k) ∧ w = w'))
    (HD : Hid (∀ w, Calls Tryd.prog 15 #[.int .i64 x.d, .int .i64 32] w fun e w' => e = .returned (.int .i64 d) ∧ w = w'))
    (HA : Hid (∀ w, Calls Tryd.prog 15 #[.int .i64 x.a, .int .i64 32] w fun e w' => e = .returned (.int .i64 a) ∧ w = w'))
    (HB : Hid (∀ w, Calls Tryd.prog 15 #[.int .i64 x.b, .int .i64 32] w fun e w' => e = .returned (.int .i64 b) ∧ w = w'))
    (HS : Hid (∀ w, Calls Tryd.prog 15 #[.int .i64 x.n, .int .i64 4095] w fun e w' => e = .returned (.int .i64 s) ∧ w = w'))
    (HN : Hid (∀ w, Calls Tryd.prog 20 #[.int .i64 x.n] w fun e w' => e = .returned (.string (strOf nm)) ∧ Below w.heap.size w w'))
    (h0 : ((1 + k == 17) = true)) (h1 : (12 < 1 + k)) (h2 : (15 < 1 + k)) (h3 : ((1 + k == 16) = false)) (w : World) :
    Calls Tryd.prog 5 #[insV x] w fun e w' => e = .returned (insV ⟨1 + k, d, 0, 0, 0, nm⟩) ∧ Below w.heap.size w w' := by
  have HO0 := Lib.hid (OwnAt.new w (insCells x) 23)
  have hs1' : (w.alloc (.cells (insCells x).toArray 23)).heap.size = w.heap.size + 1 := by simp
  have HR0 := Lib.hid (show OwnAt ((w.alloc (.cells (insCells x).toArray 23)).alloc (.cells (insCells (zeroI 0)).toArray 23)) (w.heap.size + 1) (insCells (zeroI 0)) 23 by
    have := OwnAt.new (w.alloc (.cells (insCells x).toArray 23)) (insCells (zeroI 0)) 23
    rw [hs1'] at this; exact this)
  have HO1 := Lib.hid (HO0.out.old ((Below.refl _ _).alloc (Nat.le_refl _) (.cells (insCells (zeroI 0)).toArray 23)))
  have HB1 := Lib.hid (((Below.refl w.heap.size w).alloc (Nat.le_refl _) (.cells (insCells x).toArray 23)).alloc (by simp) (.cells (insCells (zeroI 0)).toArray 23))
  have hs2 : ((w.alloc (.cells (insCells x).toArray 23)).alloc (.cells (insCells (zeroI 0)).toArray 23)).heap.size = w.heap.size + 1 + 1 := by simp
  unfold insV
  go_enter Tryd.func5, Tryd.ntmps5
  go_wp2_with fail
  refine (HK.out _).mono ?_
  rintro e w2 ⟨rfl, hw2⟩
  have HO2 : Hid (OwnAt w2 w.heap.size (insCells x) 23) := Lib.hid (by rw [← hw2]; exact HO1.out)
  have HR2 : Hid (OwnAt w2 (w.heap.size + 1) (insCells (zeroI 0)) 23) := Lib.hid (by rw [← hw2]; exact HR0.out)
  have HB2 : Hid (Below w.heap.size w w2) := Lib.hid (by rw [← hw2]; exact HB1.out)
  have hs3 : w2.heap.size = w.heap.size + 1 + 1 := by rw [← hw2]; exact hs2
  clear hw2 HO0 hs1' HR0 HO1 HB1 hs2
  have HX := Lib.hid (show OwnAt (w2.alloc (.cells #[.int .i64 (1 + k), .int .i64 0, .int .i64 0, .int .i64 0, .int .i64 0, .string ⟨#[]⟩] 23)) w2.heap.size (insCells (zeroI (1 + k))) 23 from OwnAt.new w2 (insCells (zeroI (1 + k))) 23)
  rw [hs3] at HX
  have HO3 := Lib.hid (HO2.out.old ((Below.refl _ _).alloc (Nat.le_refl _) (.cells #[.int .i64 (1 + k), .int .i64 0, .int .i64 0, .int .i64 0, .int .i64 0, .string ⟨#[]⟩] 23)))
  have HR3 := Lib.hid (HR2.out.old ((Below.refl _ _).alloc (Nat.le_refl _) (.cells #[.int .i64 (1 + k), .int .i64 0, .int .i64 0, .int .i64 0, .int .i64 0, .string ⟨#[]⟩] 23)))
  have HB3 := Lib.hid (HB2.out.alloc HB2.out.size (.cells #[.int .i64 (1 + k), .int .i64 0, .int .i64 0, .int .i64 0, .int .i64 0, .string ⟨#[]⟩] 23))
  have il := HO2.out.lt
  have i1 := HO2.out.at 1 _ rfl
  go_wp2_with fail
  obtain ⟨W3, hW3⟩ : ∃ W3, w2.alloc (.cells #[.int .i64 (1 + k), .int .i64 0, .int .i64 0, .int .i64 0, .int .i64 0, .string ⟨#[]⟩] 23) = W3 := ⟨_, rfl⟩
  rw [hW3] at HX HO3 HR3 HB3 ⊢
  clear hW3 HO2 HR2 HB2 il i1 hs3
  have i1 := HO3.out.at 1 _ rfl
  have i2 := HO3.out.at 2 _ rfl
  have i3 := HO3.out.at 3 _ rfl
  have i4 := HO3.out.at 4 _ rfl
  have x0 : W3.cell? ⟨w.heap.size + 1 + 1, 0, none⟩ = some (.int .i64 (1 + k)) := HX.out.at 0 _ rfl
  have fx0 := HX.out.fz 0
  have x1 : W3.cell? ⟨w.heap.size + 1 + 1, 1, none⟩ = some (.int .i64 0) := HX.out.at 1 _ rfl
  have fx1 := HX.out.fz 1
  have x2 : W3.cell? ⟨w.heap.size + 1 + 1, 2, none⟩ = some (.int .i64 0) := HX.out.at 2 _ rfl
  have fx2 := HX.out.fz 2
  have x3 : W3.cell? ⟨w.heap.size + 1 + 1, 3, none⟩ = some (.int .i64 0) := HX.out.at 3 _ rfl
  have fx3 := HX.out.fz 3
  have x4 : W3.cell? ⟨w.heap.size + 1 + 1, 4, none⟩ = some (.int .i64 0) := HX.out.at 4 _ rfl
  have fx4 := HX.out.fz 4
  have x5 : W3.cell? ⟨w.heap.size + 1 + 1, 5, none⟩ = some (.string ⟨#[]⟩) := HX.out.at 5 _ rfl
  have fx5 := HX.out.fz 5
  have g0 := HR3.out.at 0 _ rfl
  have fg0 := HR3.out.fz 0
  have g1 := HR3.out.at 1 _ rfl
  have fg1 := HR3.out.fz 1
  have g2 := HR3.out.at 2 _ rfl
  have fg2 := HR3.out.fz 2
  have g3 := HR3.out.at 3 _ rfl
  have fg3 := HR3.out.fz 3
  have g4 := HR3.out.at 4 _ rfl
  have fg4 := HR3.out.fz 4
  have g5 := HR3.out.at 5 _ rfl
  have fg5 := HR3.out.fz 5
  have xl := HX.out.lt
  refine (HD.out _).mono ?_
  rintro e w4 ⟨rfl, hw4⟩
  subst hw4
  go_wp2_with fail
  refine (HA.out _).mono ?_
  rintro e w4 ⟨rfl, hw4⟩
  subst hw4
  go_wp2_with fail
  refine (HB.out _).mono ?_
  rintro e w4 ⟨rfl, hw4⟩
  subst hw4
  go_wp2_with fail
  refine (HS.out _).mono ?_
  rintro e w4 ⟨rfl, hw4⟩
  subst hw4
  go_wp2_with fail
  have HXn := Lib.hid (HX.out.set 1 (.int .i64 d))
  have HRn := Lib.hid (HR3.out.other (show w.heap.size + 1 ≠ w.heap.size + 1 + 1 by omega) 1 (.int .i64 d))
  have HBn := Lib.hid (zbelow_set HB3.out (show w.heap.size ≤ w.heap.size + 1 + 1 by omega) 1 (.int .i64 d))
  refine (HN.out _).mono ?_
  rintro e w9 ⟨rfl, hb9⟩
  have HX9 := Lib.hid (HXn.out.old hb9)
  have HR9 := Lib.hid (HRn.out.old hb9)
  have HB9 := Lib.hid (HBn.out.trans (hb9.mono HBn.out.size))
  clear hb9 HXn HRn HBn x0 fx0 g0 fg0 x1 fx1 g1 fg1 x2 fx2 g2 fg2 x3 fx3 g3 fg3 x4 fx4 g4 fg4 x5 fx5 g5 fg5
  have m5 := HX9.out.fz 5
  have nl := HX9.out.lt
  have HXe := Lib.hid (HX9.out.set 5 (.string (strOf nm)))
  have HRe := Lib.hid (HR9.out.other (show w.heap.size + 1 ≠ w.heap.size + 1 + 1 by omega) 5 (.string (strOf nm)))
  have HBe := Lib.hid (zbelow_set HB9.out (show w.heap.size ≤ w.heap.size + 1 + 1 by omega) 5 (.string (strOf nm)))
  have g0 := HR9.out.at 0 _ rfl
  have fg0 := HR9.out.fz 0
  have g1 := HR9.out.at 1 _ rfl
  have fg1 := HR9.out.fz 1
  have g2 := HR9.out.at 2 _ rfl
  have fg2 := HR9.out.fz 2
  have g3 := HR9.out.at 3 _ rfl
  have fg3 := HR9.out.fz 3
  have g4 := HR9.out.at 4 _ rfl
  have fg4 := HR9.out.fz 4
  have g5 := HR9.out.at 5 _ rfl
  have fg5 := HR9.out.fz 5
  have k0 : w9.cell? ⟨w.heap.size + 1 + 1, 0, none⟩ = some (.int .i64 (1 + k)) := HX9.out.at 0 _ rfl
  have k1 : w9.cell? ⟨w.heap.size + 1 + 1, 1, none⟩ = some (.int .i64 d) := HX9.out.at 1 _ rfl
  have k2 : w9.cell? ⟨w.heap.size + 1 + 1, 2, none⟩ = some (.int .i64 0) := HX9.out.at 2 _ rfl
  have k3 : w9.cell? ⟨w.heap.size + 1 + 1, 3, none⟩ = some (.int .i64 0) := HX9.out.at 3 _ rfl
  have k4 : w9.cell? ⟨w.heap.size + 1 + 1, 4, none⟩ = some (.int .i64 0) := HX9.out.at 4 _ rfl
  have k5 : w9.cell? ⟨w.heap.size + 1 + 1, 5, none⟩ = some (.string ⟨#[]⟩) := HX9.out.at 5 _ rfl
  have gl := HR9.out.lt
  go_wp2_with fail
  have HE := Lib.hid ((((((HRe.out.set 0 (.int .i64 (1 + k))).set 1 (.int .i64 d)).set 2 (.int .i64 0)).set 3 (.int .i64 0)).set 4 (.int .i64 0)).set 5 (.string (strOf nm)))
  have e0 := HE.out.at 0 _ rfl
  have e1 := HE.out.at 1 _ rfl
  have e2 := HE.out.at 2 _ rfl
  have e3 := HE.out.at 3 _ rfl
  have e4 := HE.out.at 4 _ rfl
  have e5 := HE.out.at 5 _ rfl
  exact bodyPost_ret (v := .agg #[.int .i64 (1 + k), .int .i64 d, .int .i64 0, .int .i64 0, .int .i64 0, .string (strOf nm)]) (by simp [results, Tryd.results5, go_sem, e0, e1, e2, e3, e4, e5]) rfl ⟨rfl, set6b _ _ _ _ HBe.out (by omega) _ _ _ _ _ _⟩
end Go.Proofs.YtgdnnaiidmfncaaDoor

namespace Go.Proofs.YtgdnnaiidmfncaaDoor
open Go.RowKit
set_option maxHeartbeats 4000000
set_option maxRecDepth 100000

theorem fit_c5 (x : Ins) (k d a b s : Int) (nm : Bs) (hk0 : 0 ≤ k) (hk1 : k < 28) (hs0 : 0 ≤ s) (hs1 : s < 4095)
    (HK : Hid (∀ w, Calls Tryd.prog 15 #[.int .i64 x.op, .int .i64 28] w fun e w' => e = .returned (.int .i64 k) ∧ w = w'))
    (HD : Hid (∀ w, Calls Tryd.prog 15 #[.int .i64 x.d, .int .i64 32] w fun e w' => e = .returned (.int .i64 d) ∧ w = w'))
    (HA : Hid (∀ w, Calls Tryd.prog 15 #[.int .i64 x.a, .int .i64 32] w fun e w' => e = .returned (.int .i64 a) ∧ w = w'))
    (HB : Hid (∀ w, Calls Tryd.prog 15 #[.int .i64 x.b, .int .i64 32] w fun e w' => e = .returned (.int .i64 b) ∧ w = w'))
    (HS : Hid (∀ w, Calls Tryd.prog 15 #[.int .i64 x.n, .int .i64 4095] w fun e w' => e = .returned (.int .i64 s) ∧ w = w'))
    (HN : Hid (∀ w, Calls Tryd.prog 20 #[.int .i64 x.n] w fun e w' => e = .returned (.string (strOf nm)) ∧ Below w.heap.size w w'))
    (h0 : ((1 + k == 18) = true)) (h1 : (12 < 1 + k)) (h2 : (15 < 1 + k)) (h3 : ((1 + k == 16) = false)) (h4 : ((1 + k == 17) = false)) (w : World) :
    Calls Tryd.prog 5 #[insV x] w fun e w' => e = .returned (insV ⟨1 + k, d, a, 0, (s - 2047), []⟩) ∧ Below w.heap.size w w' := by
  have HO0 := Lib.hid (OwnAt.new w (insCells x) 23)
  have hs1' : (w.alloc (.cells (insCells x).toArray 23)).heap.size = w.heap.size + 1 := by simp
  have HR0 := Lib.hid (show OwnAt ((w.alloc (.cells (insCells x).toArray 23)).alloc (.cells (insCells (zeroI 0)).toArray 23)) (w.heap.size + 1) (insCells (zeroI 0)) 23 by
    have := OwnAt.new (w.alloc (.cells (insCells x).toArray 23)) (insCells (zeroI 0)) 23
    rw [hs1'] at this; exact this)
  have HO1 := Lib.hid (HO0.out.old ((Below.refl _ _).alloc (Nat.le_refl _) (.cells (insCells (zeroI 0)).toArray 23)))
  have HB1 := Lib.hid (((Below.refl w.heap.size w).alloc (Nat.le_refl _) (.cells (insCells x).toArray 23)).alloc (by simp) (.cells (insCells (zeroI 0)).toArray 23))
  have hs2 : ((w.alloc (.cells (insCells x).toArray 23)).alloc (.cells (insCells (zeroI 0)).toArray 23)).heap.size = w.heap.size + 1 + 1 := by simp
  unfold insV
  go_enter Tryd.func5, Tryd.ntmps5
  go_wp2_with fail
  refine (HK.out _).mono ?_
  rintro e w2 ⟨rfl, hw2⟩
  have HO2 : Hid (OwnAt w2 w.heap.size (insCells x) 23) := Lib.hid (by rw [← hw2]; exact HO1.out)
  have HR2 : Hid (OwnAt w2 (w.heap.size + 1) (insCells (zeroI 0)) 23) := Lib.hid (by rw [← hw2]; exact HR0.out)
  have HB2 : Hid (Below w.heap.size w w2) := Lib.hid (by rw [← hw2]; exact HB1.out)
  have hs3 : w2.heap.size = w.heap.size + 1 + 1 := by rw [← hw2]; exact hs2
  clear hw2 HO0 hs1' HR0 HO1 HB1 hs2
  have HX := Lib.hid (show OwnAt (w2.alloc (.cells #[.int .i64 (1 + k), .int .i64 0, .int .i64 0, .int .i64 0, .int .i64 0, .string ⟨#[]⟩] 23)) w2.heap.size (insCells (zeroI (1 + k))) 23 from OwnAt.new w2 (insCells (zeroI (1 + k))) 23)
  rw [hs3] at HX
  have HO3 := Lib.hid (HO2.out.old ((Below.refl _ _).alloc (Nat.le_refl _) (.cells #[.int .i64 (1 + k), .int .i64 0, .int .i64 0, .int .i64 0, .int .i64 0, .string ⟨#[]⟩] 23)))
  have HR3 := Lib.hid (HR2.out.old ((Below.refl _ _).alloc (Nat.le_refl _) (.cells #[.int .i64 (1 + k), .int .i64 0, .int .i64 0, .int .i64 0, .int .i64 0, .string ⟨#[]⟩] 23)))
  have HB3 := Lib.hid (HB2.out.alloc HB2.out.size (.cells #[.int .i64 (1 + k), .int .i64 0, .int .i64 0, .int .i64 0, .int .i64 0, .string ⟨#[]⟩] 23))
  have il := HO2.out.lt
  have i1 := HO2.out.at 1 _ rfl
  go_wp2_with fail
  obtain ⟨W3, hW3⟩ : ∃ W3, w2.alloc (.cells #[.int .i64 (1 + k), .int .i64 0, .int .i64 0, .int .i64 0, .int .i64 0, .string ⟨#[]⟩] 23) = W3 := ⟨_, rfl⟩
  rw [hW3] at HX HO3 HR3 HB3 ⊢
  clear hW3 HO2 HR2 HB2 il i1 hs3
  have i1 := HO3.out.at 1 _ rfl
  have i2 := HO3.out.at 2 _ rfl
  have i3 := HO3.out.at 3 _ rfl
  have i4 := HO3.out.at 4 _ rfl
  have x0 : W3.cell? ⟨w.heap.size + 1 + 1, 0, none⟩ = some (.int .i64 (1 + k)) := HX.out.at 0 _ rfl
  have fx0 := HX.out.fz 0
  have x1 : W3.cell? ⟨w.heap.size + 1 + 1, 1, none⟩ = some (.int .i64 0) := HX.out.at 1 _ rfl
  have fx1 := HX.out.fz 1
  have x2 : W3.cell? ⟨w.heap.size + 1 + 1, 2, none⟩ = some (.int .i64 0) := HX.out.at 2 _ rfl
  have fx2 := HX.out.fz 2
  have x3 : W3.cell? ⟨w.heap.size + 1 + 1, 3, none⟩ = some (.int .i64 0) := HX.out.at 3 _ rfl
  have fx3 := HX.out.fz 3
  have x4 : W3.cell? ⟨w.heap.size + 1 + 1, 4, none⟩ = some (.int .i64 0) := HX.out.at 4 _ rfl
  have fx4 := HX.out.fz 4
  have x5 : W3.cell? ⟨w.heap.size + 1 + 1, 5, none⟩ = some (.string ⟨#[]⟩) := HX.out.at 5 _ rfl
  have fx5 := HX.out.fz 5
  have g0 := HR3.out.at 0 _ rfl
  have fg0 := HR3.out.fz 0
  have g1 := HR3.out.at 1 _ rfl
  have fg1 := HR3.out.fz 1
  have g2 := HR3.out.at 2 _ rfl
  have fg2 := HR3.out.fz 2
  have g3 := HR3.out.at 3 _ rfl
  have fg3 := HR3.out.fz 3
  have g4 := HR3.out.at 4 _ rfl
  have fg4 := HR3.out.fz 4
  have g5 := HR3.out.at 5 _ rfl
  have fg5 := HR3.out.fz 5
  have xl := HX.out.lt
  refine (HD.out _).mono ?_
  rintro e w4 ⟨rfl, hw4⟩
  subst hw4
  go_wp2_with fail
  refine (HA.out _).mono ?_
  rintro e w4 ⟨rfl, hw4⟩
  subst hw4
  go_wp2_with fail
  refine (HB.out _).mono ?_
  rintro e w4 ⟨rfl, hw4⟩
  subst hw4
  go_wp2_with fail
  refine (HS.out _).mono ?_
  rintro e w4 ⟨rfl, hw4⟩
  subst hw4
  go_wp2_with fail
  have HRe := Lib.hid (((HR3.out.other (show w.heap.size + 1 ≠ w.heap.size + 1 + 1 by omega) 1 (.int .i64 d)).other (show w.heap.size + 1 ≠ w.heap.size + 1 + 1 by omega) 2 (.int .i64 a)).other (show w.heap.size + 1 ≠ w.heap.size + 1 + 1 by omega) 4 (.int .i64 (s - 2047)))
  have HBe := Lib.hid (zbelow_set (zbelow_set (zbelow_set HB3.out (show w.heap.size ≤ w.heap.size + 1 + 1 by omega) 1 (.int .i64 d)) (show w.heap.size ≤ w.heap.size + 1 + 1 by omega) 2 (.int .i64 a)) (show w.heap.size ≤ w.heap.size + 1 + 1 by omega) 4 (.int .i64 (s - 2047)))
  have HE := Lib.hid ((((((HRe.out.set 0 (.int .i64 (1 + k))).set 1 (.int .i64 d)).set 2 (.int .i64 a)).set 3 (.int .i64 0)).set 4 (.int .i64 (s - 2047))).set 5 (.string ⟨#[]⟩))
  have e0 := HE.out.at 0 _ rfl
  have e1 := HE.out.at 1 _ rfl
  have e2 := HE.out.at 2 _ rfl
  have e3 := HE.out.at 3 _ rfl
  have e4 := HE.out.at 4 _ rfl
  have e5 := HE.out.at 5 _ rfl
  exact bodyPost_ret (v := .agg #[.int .i64 (1 + k), .int .i64 d, .int .i64 a, .int .i64 0, .int .i64 (s - 2047), .string ⟨#[]⟩]) (by simp [results, Tryd.results5, go_sem, e0, e1, e2, e3, e4, e5]) rfl ⟨rfl, set6b _ _ _ _ HBe.out (by omega) _ _ _ _ _ _⟩
end Go.Proofs.YtgdnnaiidmfncaaDoor

namespace Go.Proofs.YtgdnnaiidmfncaaDoor
open Go.RowKit
set_option maxHeartbeats 4000000
set_option maxRecDepth 100000

theorem fit_c6 (x : Ins) (k d a b s : Int) (nm : Bs) (hk0 : 0 ≤ k) (hk1 : k < 28) (hs0 : 0 ≤ s) (hs1 : s < 4095)
    (HK : Hid (∀ w, Calls Tryd.prog 15 #[.int .i64 x.op, .int .i64 28] w fun e w' => e = .returned (.int .i64 k) ∧ w = w'))
    (HD : Hid (∀ w, Calls Tryd.prog 15 #[.int .i64 x.d, .int .i64 32] w fun e w' => e = .returned (.int .i64 d) ∧ w = w'))
    (HA : Hid (∀ w, Calls Tryd.prog 15 #[.int .i64 x.a, .int .i64 32] w fun e w' => e = .returned (.int .i64 a) ∧ w = w'))
    (HB : Hid (∀ w, Calls Tryd.prog 15 #[.int .i64 x.b, .int .i64 32] w fun e w' => e = .returned (.int .i64 b) ∧ w = w'))
    (HS : Hid (∀ w, Calls Tryd.prog 15 #[.int .i64 x.n, .int .i64 4095] w fun e w' => e = .returned (.int .i64 s) ∧ w = w'))
    (HN : Hid (∀ w, Calls Tryd.prog 20 #[.int .i64 x.n] w fun e w' => e = .returned (.string (strOf nm)) ∧ Below w.heap.size w w'))
    (h0 : ((1 + k == 19) = true)) (h1 : (12 < 1 + k)) (h2 : (15 < 1 + k)) (h3 : ((1 + k == 16) = false)) (h4 : ((1 + k == 17) = false)) (h5 : ((1 + k == 18) = false)) (w : World) :
    Calls Tryd.prog 5 #[insV x] w fun e w' => e = .returned (insV ⟨1 + k, d, a, 0, (s - 2047), []⟩) ∧ Below w.heap.size w w' := by
  have HO0 := Lib.hid (OwnAt.new w (insCells x) 23)
  have hs1' : (w.alloc (.cells (insCells x).toArray 23)).heap.size = w.heap.size + 1 := by simp
  have HR0 := Lib.hid (show OwnAt ((w.alloc (.cells (insCells x).toArray 23)).alloc (.cells (insCells (zeroI 0)).toArray 23)) (w.heap.size + 1) (insCells (zeroI 0)) 23 by
    have := OwnAt.new (w.alloc (.cells (insCells x).toArray 23)) (insCells (zeroI 0)) 23
    rw [hs1'] at this; exact this)
  have HO1 := Lib.hid (HO0.out.old ((Below.refl _ _).alloc (Nat.le_refl _) (.cells (insCells (zeroI 0)).toArray 23)))
  have HB1 := Lib.hid (((Below.refl w.heap.size w).alloc (Nat.le_refl _) (.cells (insCells x).toArray 23)).alloc (by simp) (.cells (insCells (zeroI 0)).toArray 23))
  have hs2 : ((w.alloc (.cells (insCells x).toArray 23)).alloc (.cells (insCells (zeroI 0)).toArray 23)).heap.size = w.heap.size + 1 + 1 := by simp
  unfold insV
  go_enter Tryd.func5, Tryd.ntmps5
  go_wp2_with fail
  refine (HK.out _).mono ?_
  rintro e w2 ⟨rfl, hw2⟩
  have HO2 : Hid (OwnAt w2 w.heap.size (insCells x) 23) := Lib.hid (by rw [← hw2]; exact HO1.out)
  have HR2 : Hid (OwnAt w2 (w.heap.size + 1) (insCells (zeroI 0)) 23) := Lib.hid (by rw [← hw2]; exact HR0.out)
  have HB2 : Hid (Below w.heap.size w w2) := Lib.hid (by rw [← hw2]; exact HB1.out)
  have hs3 : w2.heap.size = w.heap.size + 1 + 1 := by rw [← hw2]; exact hs2
  clear hw2 HO0 hs1' HR0 HO1 HB1 hs2
  have HX := Lib.hid (show OwnAt (w2.alloc (.cells #[.int .i64 (1 + k), .int .i64 0, .int .i64 0, .int .i64 0, .int .i64 0, .string ⟨#[]⟩] 23)) w2.heap.size (insCells (zeroI (1 + k))) 23 from OwnAt.new w2 (insCells (zeroI (1 + k))) 23)
  rw [hs3] at HX
  have HO3 := Lib.hid (HO2.out.old ((Below.refl _ _).alloc (Nat.le_refl _) (.cells #[.int .i64 (1 + k), .int .i64 0, .int .i64 0, .int .i64 0, .int .i64 0, .string ⟨#[]⟩] 23)))
  have HR3 := Lib.hid (HR2.out.old ((Below.refl _ _).alloc (Nat.le_refl _) (.cells #[.int .i64 (1 + k), .int .i64 0, .int .i64 0, .int .i64 0, .int .i64 0, .string ⟨#[]⟩] 23)))
  have HB3 := Lib.hid (HB2.out.alloc HB2.out.size (.cells #[.int .i64 (1 + k), .int .i64 0, .int .i64 0, .int .i64 0, .int .i64 0, .string ⟨#[]⟩] 23))
  have il := HO2.out.lt
  have i1 := HO2.out.at 1 _ rfl
  go_wp2_with fail
  obtain ⟨W3, hW3⟩ : ∃ W3, w2.alloc (.cells #[.int .i64 (1 + k), .int .i64 0, .int .i64 0, .int .i64 0, .int .i64 0, .string ⟨#[]⟩] 23) = W3 := ⟨_, rfl⟩
  rw [hW3] at HX HO3 HR3 HB3 ⊢
  clear hW3 HO2 HR2 HB2 il i1 hs3
  have i1 := HO3.out.at 1 _ rfl
  have i2 := HO3.out.at 2 _ rfl
  have i3 := HO3.out.at 3 _ rfl
  have i4 := HO3.out.at 4 _ rfl
  have x0 : W3.cell? ⟨w.heap.size + 1 + 1, 0, none⟩ = some (.int .i64 (1 + k)) := HX.out.at 0 _ rfl
  have fx0 := HX.out.fz 0
  have x1 : W3.cell? ⟨w.heap.size + 1 + 1, 1, none⟩ = some (.int .i64 0) := HX.out.at 1 _ rfl
  have fx1 := HX.out.fz 1
  have x2 : W3.cell? ⟨w.heap.size + 1 + 1, 2, none⟩ = some (.int .i64 0) := HX.out.at 2 _ rfl
  have fx2 := HX.out.fz 2
  have x3 : W3.cell? ⟨w.heap.size + 1 + 1, 3, none⟩ = some (.int .i64 0) := HX.out.at 3 _ rfl
  have fx3 := HX.out.fz 3
  have x4 : W3.cell? ⟨w.heap.size + 1 + 1, 4, none⟩ = some (.int .i64 0) := HX.out.at 4 _ rfl
  have fx4 := HX.out.fz 4
  have x5 : W3.cell? ⟨w.heap.size + 1 + 1, 5, none⟩ = some (.string ⟨#[]⟩) := HX.out.at 5 _ rfl
  have fx5 := HX.out.fz 5
  have g0 := HR3.out.at 0 _ rfl
  have fg0 := HR3.out.fz 0
  have g1 := HR3.out.at 1 _ rfl
  have fg1 := HR3.out.fz 1
  have g2 := HR3.out.at 2 _ rfl
  have fg2 := HR3.out.fz 2
  have g3 := HR3.out.at 3 _ rfl
  have fg3 := HR3.out.fz 3
  have g4 := HR3.out.at 4 _ rfl
  have fg4 := HR3.out.fz 4
  have g5 := HR3.out.at 5 _ rfl
  have fg5 := HR3.out.fz 5
  have xl := HX.out.lt
  refine (HD.out _).mono ?_
  rintro e w4 ⟨rfl, hw4⟩
  subst hw4
  go_wp2_with fail
  refine (HA.out _).mono ?_
  rintro e w4 ⟨rfl, hw4⟩
  subst hw4
  go_wp2_with fail
  refine (HB.out _).mono ?_
  rintro e w4 ⟨rfl, hw4⟩
  subst hw4
  go_wp2_with fail
  refine (HS.out _).mono ?_
  rintro e w4 ⟨rfl, hw4⟩
  subst hw4
  go_wp2_with fail
  have HRe := Lib.hid (((HR3.out.other (show w.heap.size + 1 ≠ w.heap.size + 1 + 1 by omega) 1 (.int .i64 d)).other (show w.heap.size + 1 ≠ w.heap.size + 1 + 1 by omega) 2 (.int .i64 a)).other (show w.heap.size + 1 ≠ w.heap.size + 1 + 1 by omega) 4 (.int .i64 (s - 2047)))
  have HBe := Lib.hid (zbelow_set (zbelow_set (zbelow_set HB3.out (show w.heap.size ≤ w.heap.size + 1 + 1 by omega) 1 (.int .i64 d)) (show w.heap.size ≤ w.heap.size + 1 + 1 by omega) 2 (.int .i64 a)) (show w.heap.size ≤ w.heap.size + 1 + 1 by omega) 4 (.int .i64 (s - 2047)))
  have HE := Lib.hid ((((((HRe.out.set 0 (.int .i64 (1 + k))).set 1 (.int .i64 d)).set 2 (.int .i64 a)).set 3 (.int .i64 0)).set 4 (.int .i64 (s - 2047))).set 5 (.string ⟨#[]⟩))
  have e0 := HE.out.at 0 _ rfl
  have e1 := HE.out.at 1 _ rfl
  have e2 := HE.out.at 2 _ rfl
  have e3 := HE.out.at 3 _ rfl
  have e4 := HE.out.at 4 _ rfl
  have e5 := HE.out.at 5 _ rfl
  exact bodyPost_ret (v := .agg #[.int .i64 (1 + k), .int .i64 d, .int .i64 a, .int .i64 0, .int .i64 (s - 2047), .string ⟨#[]⟩]) (by simp [results, Tryd.results5, go_sem, e0, e1, e2, e3, e4, e5]) rfl ⟨rfl, set6b _ _ _ _ HBe.out (by omega) _ _ _ _ _ _⟩
end Go.Proofs.YtgdnnaiidmfncaaDoor

namespace Go.Proofs.YtgdnnaiidmfncaaDoor
open Go.RowKit
set_option maxHeartbeats 4000000
set_option maxRecDepth 100000

theorem fit_c7 (x : Ins) (k d a b s : Int) (nm : Bs) (hk0 : 0 ≤ k) (hk1 : k < 28) (hs0 : 0 ≤ s) (hs1 : s < 4095)
    (HK : Hid (∀ w, Calls Tryd.prog 15 #[.int .i64 x.op, .int .i64 28] w fun e w' => e = .returned (.int .i64 k) ∧ w = w'))
    (HD : Hid (∀ w, Calls Tryd.prog 15 #[.int .i64 x.d, .int .i64 32] w fun e w' => e = .returned (.int .i64 d) ∧ w = w'))
    (HA : Hid (∀ w, Calls Tryd.prog 15 #[.int .i64 x.a, .int .i64 32] w fun e w' => e = .returned (.int .i64 a) ∧ w = w'))
    (HB : Hid (∀ w, Calls Tryd.prog 15 #[.int .i64 x.b, .int .i64 32] w fun e w' => e = .returned (.int .i64 b) ∧ w = w'))
    (HS : Hid (∀ w, Calls Tryd.prog 15 #[.int .i64 x.n, .int .i64 4095] w fun e w' => e = .returned (.int .i64 s) ∧ w = w'))
    (HN : Hid (∀ w, Calls Tryd.prog 20 #[.int .i64 x.n] w fun e w' => e = .returned (.string (strOf nm)) ∧ Below w.heap.size w w'))
    (h0 : ((1 + k == 20) = true)) (h1 : (12 < 1 + k)) (h2 : (15 < 1 + k)) (h3 : ((1 + k == 16) = false)) (h4 : ((1 + k == 17) = false)) (h5 : ((1 + k == 18) = false)) (h6 : ((1 + k == 19) = false)) (w : World) :
    Calls Tryd.prog 5 #[insV x] w fun e w' => e = .returned (insV ⟨1 + k, 0, a, b, (s - 2047), []⟩) ∧ Below w.heap.size w w' := by
  have HO0 := Lib.hid (OwnAt.new w (insCells x) 23)
  have hs1' : (w.alloc (.cells (insCells x).toArray 23)).heap.size = w.heap.size + 1 := by simp
  have HR0 := Lib.hid (show OwnAt ((w.alloc (.cells (insCells x).toArray 23)).alloc (.cells (insCells (zeroI 0)).toArray 23)) (w.heap.size + 1) (insCells (zeroI 0)) 23 by
    have := OwnAt.new (w.alloc (.cells (insCells x).toArray 23)) (insCells (zeroI 0)) 23
    rw [hs1'] at this; exact this)
  have HO1 := Lib.hid (HO0.out.old ((Below.refl _ _).alloc (Nat.le_refl _) (.cells (insCells (zeroI 0)).toArray 23)))
  have HB1 := Lib.hid (((Below.refl w.heap.size w).alloc (Nat.le_refl _) (.cells (insCells x).toArray 23)).alloc (by simp) (.cells (insCells (zeroI 0)).toArray 23))
  have hs2 : ((w.alloc (.cells (insCells x).toArray 23)).alloc (.cells (insCells (zeroI 0)).toArray 23)).heap.size = w.heap.size + 1 + 1 := by simp
  unfold insV
  go_enter Tryd.func5, Tryd.ntmps5
  go_wp2_with fail
  refine (HK.out _).mono ?_
  rintro e w2 ⟨rfl, hw2⟩
  have HO2 : Hid (OwnAt w2 w.heap.size (insCells x) 23) := Lib.hid (by rw [← hw2]; exact HO1.out)
  have HR2 : Hid (OwnAt w2 (w.heap.size + 1) (insCells (zeroI 0)) 23) := Lib.hid (by rw [← hw2]; exact HR0.out)
  have HB2 : Hid (Below w.heap.size w w2) := Lib.hid (by rw [← hw2]; exact HB1.out)
  have hs3 : w2.heap.size = w.heap.size + 1 + 1 := by rw [← hw2]; exact hs2
  clear hw2 HO0 hs1' HR0 HO1 HB1 hs2
  have HX := Lib.hid (show OwnAt (w2.alloc (.cells #[.int .i64 (1 + k), .int .i64 0, .int .i64 0, .int .i64 0, .int .i64 0, .string ⟨#[]⟩] 23)) w2.heap.size (insCells (zeroI (1 + k))) 23 from OwnAt.new w2 (insCells (zeroI (1 + k))) 23)
  rw [hs3] at HX
  have HO3 := Lib.hid (HO2.out.old ((Below.refl _ _).alloc (Nat.le_refl _) (.cells #[.int .i64 (1 + k), .int .i64 0, .int .i64 0, .int .i64 0, .int .i64 0, .string ⟨#[]⟩] 23)))
  have HR3 := Lib.hid (HR2.out.old ((Below.refl _ _).alloc (Nat.le_refl _) (.cells #[.int .i64 (1 + k), .int .i64 0, .int .i64 0, .int .i64 0, .int .i64 0, .string ⟨#[]⟩] 23)))
  have HB3 := Lib.hid (HB2.out.alloc HB2.out.size (.cells #[.int .i64 (1 + k), .int .i64 0, .int .i64 0, .int .i64 0, .int .i64 0, .string ⟨#[]⟩] 23))
  have il := HO2.out.lt
  have i1 := HO2.out.at 1 _ rfl
  go_wp2_with fail
  obtain ⟨W3, hW3⟩ : ∃ W3, w2.alloc (.cells #[.int .i64 (1 + k), .int .i64 0, .int .i64 0, .int .i64 0, .int .i64 0, .string ⟨#[]⟩] 23) = W3 := ⟨_, rfl⟩
  rw [hW3] at HX HO3 HR3 HB3 ⊢
  clear hW3 HO2 HR2 HB2 il i1 hs3
  have i1 := HO3.out.at 1 _ rfl
  have i2 := HO3.out.at 2 _ rfl
  have i3 := HO3.out.at 3 _ rfl
  have i4 := HO3.out.at 4 _ rfl
  have x0 : W3.cell? ⟨w.heap.size + 1 + 1, 0, none⟩ = some (.int .i64 (1 + k)) := HX.out.at 0 _ rfl
  have fx0 := HX.out.fz 0
  have x1 : W3.cell? ⟨w.heap.size + 1 + 1, 1, none⟩ = some (.int .i64 0) := HX.out.at 1 _ rfl
  have fx1 := HX.out.fz 1
  have x2 : W3.cell? ⟨w.heap.size + 1 + 1, 2, none⟩ = some (.int .i64 0) := HX.out.at 2 _ rfl
  have fx2 := HX.out.fz 2
  have x3 : W3.cell? ⟨w.heap.size + 1 + 1, 3, none⟩ = some (.int .i64 0) := HX.out.at 3 _ rfl
  have fx3 := HX.out.fz 3
  have x4 : W3.cell? ⟨w.heap.size + 1 + 1, 4, none⟩ = some (.int .i64 0) := HX.out.at 4 _ rfl
  have fx4 := HX.out.fz 4
  have x5 : W3.cell? ⟨w.heap.size + 1 + 1, 5, none⟩ = some (.string ⟨#[]⟩) := HX.out.at 5 _ rfl
  have fx5 := HX.out.fz 5
  have g0 := HR3.out.at 0 _ rfl
  have fg0 := HR3.out.fz 0
  have g1 := HR3.out.at 1 _ rfl
  have fg1 := HR3.out.fz 1
  have g2 := HR3.out.at 2 _ rfl
  have fg2 := HR3.out.fz 2
  have g3 := HR3.out.at 3 _ rfl
  have fg3 := HR3.out.fz 3
  have g4 := HR3.out.at 4 _ rfl
  have fg4 := HR3.out.fz 4
  have g5 := HR3.out.at 5 _ rfl
  have fg5 := HR3.out.fz 5
  have xl := HX.out.lt
  refine (HD.out _).mono ?_
  rintro e w4 ⟨rfl, hw4⟩
  subst hw4
  go_wp2_with fail
  refine (HA.out _).mono ?_
  rintro e w4 ⟨rfl, hw4⟩
  subst hw4
  go_wp2_with fail
  refine (HB.out _).mono ?_
  rintro e w4 ⟨rfl, hw4⟩
  subst hw4
  go_wp2_with fail
  refine (HS.out _).mono ?_
  rintro e w4 ⟨rfl, hw4⟩
  subst hw4
  go_wp2_with fail
  have HRe := Lib.hid (((HR3.out.other (show w.heap.size + 1 ≠ w.heap.size + 1 + 1 by omega) 2 (.int .i64 a)).other (show w.heap.size + 1 ≠ w.heap.size + 1 + 1 by omega) 3 (.int .i64 b)).other (show w.heap.size + 1 ≠ w.heap.size + 1 + 1 by omega) 4 (.int .i64 (s - 2047)))
  have HBe := Lib.hid (zbelow_set (zbelow_set (zbelow_set HB3.out (show w.heap.size ≤ w.heap.size + 1 + 1 by omega) 2 (.int .i64 a)) (show w.heap.size ≤ w.heap.size + 1 + 1 by omega) 3 (.int .i64 b)) (show w.heap.size ≤ w.heap.size + 1 + 1 by omega) 4 (.int .i64 (s - 2047)))
  have HE := Lib.hid ((((((HRe.out.set 0 (.int .i64 (1 + k))).set 1 (.int .i64 0)).set 2 (.int .i64 a)).set 3 (.int .i64 b)).set 4 (.int .i64 (s - 2047))).set 5 (.string ⟨#[]⟩))
  have e0 := HE.out.at 0 _ rfl
  have e1 := HE.out.at 1 _ rfl
  have e2 := HE.out.at 2 _ rfl
  have e3 := HE.out.at 3 _ rfl
  have e4 := HE.out.at 4 _ rfl
  have e5 := HE.out.at 5 _ rfl
  exact bodyPost_ret (v := .agg #[.int .i64 (1 + k), .int .i64 0, .int .i64 a, .int .i64 b, .int .i64 (s - 2047), .string ⟨#[]⟩]) (by simp [results, Tryd.results5, go_sem, e0, e1, e2, e3, e4, e5]) rfl ⟨rfl, set6b _ _ _ _ HBe.out (by omega) _ _ _ _ _ _⟩
end Go.Proofs.YtgdnnaiidmfncaaDoor

namespace Go.Proofs.YtgdnnaiidmfncaaDoor
open Go.RowKit
set_option maxHeartbeats 4000000
set_option maxRecDepth 100000

theorem fit_c8 (x : Ins) (k d a b s : Int) (nm : Bs) (hk0 : 0 ≤ k) (hk1 : k < 28) (hs0 : 0 ≤ s) (hs1 : s < 4095)
    (HK : Hid (∀ w, Calls Tryd.prog 15 #[.int .i64 x.op, .int .i64 28] w fun e w' => e = .returned (.int .i64 k) ∧ w = w'))
    (HD : Hid (∀ w, Calls Tryd.prog 15 #[.int .i64 x.d, .int .i64 32] w fun e w' => e = .returned (.int .i64 d) ∧ w = w'))
    (HA : Hid (∀ w, Calls Tryd.prog 15 #[.int .i64 x.a, .int .i64 32] w fun e w' => e = .returned (.int .i64 a) ∧ w = w'))
    (HB : Hid (∀ w, Calls Tryd.prog 15 #[.int .i64 x.b, .int .i64 32] w fun e w' => e = .returned (.int .i64 b) ∧ w = w'))
    (HS : Hid (∀ w, Calls Tryd.prog 15 #[.int .i64 x.n, .int .i64 4095] w fun e w' => e = .returned (.int .i64 s) ∧ w = w'))
    (HN : Hid (∀ w, Calls Tryd.prog 20 #[.int .i64 x.n] w fun e w' => e = .returned (.string (strOf nm)) ∧ Below w.heap.size w w'))
    (h0 : (1 + k ≤ 24)) (h1 : (12 < 1 + k)) (h2 : (15 < 1 + k)) (h3 : ((1 + k == 16) = false)) (h4 : ((1 + k == 17) = false)) (h5 : ((1 + k == 18) = false)) (h6 : ((1 + k == 19) = false)) (h7 : ((1 + k == 20) = false)) (w : World) :
    Calls Tryd.prog 5 #[insV x] w fun e w' => e = .returned (insV ⟨1 + k, 0, a, b, 0, nm⟩) ∧ Below w.heap.size w w' := by
  have HO0 := Lib.hid (OwnAt.new w (insCells x) 23)
  have hs1' : (w.alloc (.cells (insCells x).toArray 23)).heap.size = w.heap.size + 1 := by simp
  have HR0 := Lib.hid (show OwnAt ((w.alloc (.cells (insCells x).toArray 23)).alloc (.cells (insCells (zeroI 0)).toArray 23)) (w.heap.size + 1) (insCells (zeroI 0)) 23 by
    have := OwnAt.new (w.alloc (.cells (insCells x).toArray 23)) (insCells (zeroI 0)) 23
    rw [hs1'] at this; exact this)
  have HO1 := Lib.hid (HO0.out.old ((Below.refl _ _).alloc (Nat.le_refl _) (.cells (insCells (zeroI 0)).toArray 23)))
  have HB1 := Lib.hid (((Below.refl w.heap.size w).alloc (Nat.le_refl _) (.cells (insCells x).toArray 23)).alloc (by simp) (.cells (insCells (zeroI 0)).toArray 23))
  have hs2 : ((w.alloc (.cells (insCells x).toArray 23)).alloc (.cells (insCells (zeroI 0)).toArray 23)).heap.size = w.heap.size + 1 + 1 := by simp
  unfold insV
  go_enter Tryd.func5, Tryd.ntmps5
  go_wp2_with fail
  refine (HK.out _).mono ?_
  rintro e w2 ⟨rfl, hw2⟩
  have HO2 : Hid (OwnAt w2 w.heap.size (insCells x) 23) := Lib.hid (by rw [← hw2]; exact HO1.out)
  have HR2 : Hid (OwnAt w2 (w.heap.size + 1) (insCells (zeroI 0)) 23) := Lib.hid (by rw [← hw2]; exact HR0.out)
  have HB2 : Hid (Below w.heap.size w w2) := Lib.hid (by rw [← hw2]; exact HB1.out)
  have hs3 : w2.heap.size = w.heap.size + 1 + 1 := by rw [← hw2]; exact hs2
  clear hw2 HO0 hs1' HR0 HO1 HB1 hs2
  have HX := Lib.hid (show OwnAt (w2.alloc (.cells #[.int .i64 (1 + k), .int .i64 0, .int .i64 0, .int .i64 0, .int .i64 0, .string ⟨#[]⟩] 23)) w2.heap.size (insCells (zeroI (1 + k))) 23 from OwnAt.new w2 (insCells (zeroI (1 + k))) 23)
  rw [hs3] at HX
  have HO3 := Lib.hid (HO2.out.old ((Below.refl _ _).alloc (Nat.le_refl _) (.cells #[.int .i64 (1 + k), .int .i64 0, .int .i64 0, .int .i64 0, .int .i64 0, .string ⟨#[]⟩] 23)))
  have HR3 := Lib.hid (HR2.out.old ((Below.refl _ _).alloc (Nat.le_refl _) (.cells #[.int .i64 (1 + k), .int .i64 0, .int .i64 0, .int .i64 0, .int .i64 0, .string ⟨#[]⟩] 23)))
  have HB3 := Lib.hid (HB2.out.alloc HB2.out.size (.cells #[.int .i64 (1 + k), .int .i64 0, .int .i64 0, .int .i64 0, .int .i64 0, .string ⟨#[]⟩] 23))
  have il := HO2.out.lt
  have i1 := HO2.out.at 1 _ rfl
  go_wp2_with fail
  obtain ⟨W3, hW3⟩ : ∃ W3, w2.alloc (.cells #[.int .i64 (1 + k), .int .i64 0, .int .i64 0, .int .i64 0, .int .i64 0, .string ⟨#[]⟩] 23) = W3 := ⟨_, rfl⟩
  rw [hW3] at HX HO3 HR3 HB3 ⊢
  clear hW3 HO2 HR2 HB2 il i1 hs3
  have i1 := HO3.out.at 1 _ rfl
  have i2 := HO3.out.at 2 _ rfl
  have i3 := HO3.out.at 3 _ rfl
  have i4 := HO3.out.at 4 _ rfl
  have x0 : W3.cell? ⟨w.heap.size + 1 + 1, 0, none⟩ = some (.int .i64 (1 + k)) := HX.out.at 0 _ rfl
  have fx0 := HX.out.fz 0
  have x1 : W3.cell? ⟨w.heap.size + 1 + 1, 1, none⟩ = some (.int .i64 0) := HX.out.at 1 _ rfl
  have fx1 := HX.out.fz 1
  have x2 : W3.cell? ⟨w.heap.size + 1 + 1, 2, none⟩ = some (.int .i64 0) := HX.out.at 2 _ rfl
  have fx2 := HX.out.fz 2
  have x3 : W3.cell? ⟨w.heap.size + 1 + 1, 3, none⟩ = some (.int .i64 0) := HX.out.at 3 _ rfl
  have fx3 := HX.out.fz 3
  have x4 : W3.cell? ⟨w.heap.size + 1 + 1, 4, none⟩ = some (.int .i64 0) := HX.out.at 4 _ rfl
  have fx4 := HX.out.fz 4
  have x5 : W3.cell? ⟨w.heap.size + 1 + 1, 5, none⟩ = some (.string ⟨#[]⟩) := HX.out.at 5 _ rfl
  have fx5 := HX.out.fz 5
  have g0 := HR3.out.at 0 _ rfl
  have fg0 := HR3.out.fz 0
  have g1 := HR3.out.at 1 _ rfl
  have fg1 := HR3.out.fz 1
  have g2 := HR3.out.at 2 _ rfl
  have fg2 := HR3.out.fz 2
  have g3 := HR3.out.at 3 _ rfl
  have fg3 := HR3.out.fz 3
  have g4 := HR3.out.at 4 _ rfl
  have fg4 := HR3.out.fz 4
  have g5 := HR3.out.at 5 _ rfl
  have fg5 := HR3.out.fz 5
  have xl := HX.out.lt
  refine (HD.out _).mono ?_
  rintro e w4 ⟨rfl, hw4⟩
  subst hw4
  go_wp2_with fail
  refine (HA.out _).mono ?_
  rintro e w4 ⟨rfl, hw4⟩
  subst hw4
  go_wp2_with fail
  refine (HB.out _).mono ?_
  rintro e w4 ⟨rfl, hw4⟩
  subst hw4
  go_wp2_with fail
  refine (HS.out _).mono ?_
  rintro e w4 ⟨rfl, hw4⟩
  subst hw4
  go_wp2_with fail
  have HXn := Lib.hid ((HX.out.set 2 (.int .i64 a)).set 3 (.int .i64 b))
  have HRn := Lib.hid ((HR3.out.other (show w.heap.size + 1 ≠ w.heap.size + 1 + 1 by omega) 2 (.int .i64 a)).other (show w.heap.size + 1 ≠ w.heap.size + 1 + 1 by omega) 3 (.int .i64 b))
  have HBn := Lib.hid (zbelow_set (zbelow_set HB3.out (show w.heap.size ≤ w.heap.size + 1 + 1 by omega) 2 (.int .i64 a)) (show w.heap.size ≤ w.heap.size + 1 + 1 by omega) 3 (.int .i64 b))
  refine (HN.out _).mono ?_
  rintro e w9 ⟨rfl, hb9⟩
  have HX9 := Lib.hid (HXn.out.old hb9)
  have HR9 := Lib.hid (HRn.out.old hb9)
  have HB9 := Lib.hid (HBn.out.trans (hb9.mono HBn.out.size))
  clear hb9 HXn HRn HBn x0 fx0 g0 fg0 x1 fx1 g1 fg1 x2 fx2 g2 fg2 x3 fx3 g3 fg3 x4 fx4 g4 fg4 x5 fx5 g5 fg5
  have m5 := HX9.out.fz 5
  have nl := HX9.out.lt
  have HXe := Lib.hid (HX9.out.set 5 (.string (strOf nm)))
  have HRe := Lib.hid (HR9.out.other (show w.heap.size + 1 ≠ w.heap.size + 1 + 1 by omega) 5 (.string (strOf nm)))
  have HBe := Lib.hid (zbelow_set HB9.out (show w.heap.size ≤ w.heap.size + 1 + 1 by omega) 5 (.string (strOf nm)))
  have g0 := HR9.out.at 0 _ rfl
  have fg0 := HR9.out.fz 0
  have g1 := HR9.out.at 1 _ rfl
  have fg1 := HR9.out.fz 1
  have g2 := HR9.out.at 2 _ rfl
  have fg2 := HR9.out.fz 2
  have g3 := HR9.out.at 3 _ rfl
  have fg3 := HR9.out.fz 3
  have g4 := HR9.out.at 4 _ rfl
  have fg4 := HR9.out.fz 4
  have g5 := HR9.out.at 5 _ rfl
  have fg5 := HR9.out.fz 5
  have k0 : w9.cell? ⟨w.heap.size + 1 + 1, 0, none⟩ = some (.int .i64 (1 + k)) := HX9.out.at 0 _ rfl
  have k1 : w9.cell? ⟨w.heap.size + 1 + 1, 1, none⟩ = some (.int .i64 0) := HX9.out.at 1 _ rfl
  have k2 : w9.cell? ⟨w.heap.size + 1 + 1, 2, none⟩ = some (.int .i64 a) := HX9.out.at 2 _ rfl
  have k3 : w9.cell? ⟨w.heap.size + 1 + 1, 3, none⟩ = some (.int .i64 b) := HX9.out.at 3 _ rfl
  have k4 : w9.cell? ⟨w.heap.size + 1 + 1, 4, none⟩ = some (.int .i64 0) := HX9.out.at 4 _ rfl
  have k5 : w9.cell? ⟨w.heap.size + 1 + 1, 5, none⟩ = some (.string ⟨#[]⟩) := HX9.out.at 5 _ rfl
  have gl := HR9.out.lt
  go_wp2_with fail
  have HE := Lib.hid ((((((HRe.out.set 0 (.int .i64 (1 + k))).set 1 (.int .i64 0)).set 2 (.int .i64 a)).set 3 (.int .i64 b)).set 4 (.int .i64 0)).set 5 (.string (strOf nm)))
  have e0 := HE.out.at 0 _ rfl
  have e1 := HE.out.at 1 _ rfl
  have e2 := HE.out.at 2 _ rfl
  have e3 := HE.out.at 3 _ rfl
  have e4 := HE.out.at 4 _ rfl
  have e5 := HE.out.at 5 _ rfl
  exact bodyPost_ret (v := .agg #[.int .i64 (1 + k), .int .i64 0, .int .i64 a, .int .i64 b, .int .i64 0, .string (strOf nm)]) (by simp [results, Tryd.results5, go_sem, e0, e1, e2, e3, e4, e5]) rfl ⟨rfl, set6b _ _ _ _ HBe.out (by omega) _ _ _ _ _ _⟩
end Go.Proofs.YtgdnnaiidmfncaaDoor

namespace Go.Proofs.YtgdnnaiidmfncaaDoor
open Go.RowKit
set_option maxHeartbeats 4000000
set_option maxRecDepth 100000

theorem fit_c9 (x : Ins) (k d a b s : Int) (nm : Bs) (hk0 : 0 ≤ k) (hk1 : k < 28) (hs0 : 0 ≤ s) (hs1 : s < 4095)
    (HK : Hid (∀ w, Calls Tryd.prog 15 #[.int .i64 x.op, .int .i64 28] w fun e w' => e = .returned (.int .i64 k) ∧ w = w'))
    (HD : Hid (∀ w, Calls Tryd.prog 15 #[.int .i64 x.d, .int .i64 32] w fun e w' => e = .returned (.int .i64 d) ∧ w = w'))
    (HA : Hid (∀ w, Calls Tryd.prog 15 #[.int .i64 x.a, .int .i64 32] w fun e w' => e = .returned (.int .i64 a) ∧ w = w'))
    (HB : Hid (∀ w, Calls Tryd.prog 15 #[.int .i64 x.b, .int .i64 32] w fun e w' => e = .returned (.int .i64 b) ∧ w = w'))
    (HS : Hid (∀ w, Calls Tryd.prog 15 #[.int .i64 x.n, .int .i64 4095] w fun e w' => e = .returned (.int .i64 s) ∧ w = w'))
    (HN : Hid (∀ w, Calls Tryd.prog 20 #[.int .i64 x.n] w fun e w' => e = .returned (.string (strOf nm)) ∧ Below w.heap.size w w'))
    (h0 : (1 + k ≤ 26)) (h1 : (12 < 1 + k)) (h2 : (15 < 1 + k)) (h3 : ((1 + k == 16) = false)) (h4 : ((1 + k == 17) = false)) (h5 : ((1 + k == 18) = false)) (h6 : ((1 + k == 19) = false)) (h7 : ((1 + k == 20) = false)) (h8 : (24 < 1 + k)) (w : World) :
    Calls Tryd.prog 5 #[insV x] w fun e w' => e = .returned (insV ⟨1 + k, 0, 0, 0, 0, nm⟩) ∧ Below w.heap.size w w' := by
  have HO0 := Lib.hid (OwnAt.new w (insCells x) 23)
  have hs1' : (w.alloc (.cells (insCells x).toArray 23)).heap.size = w.heap.size + 1 := by simp
  have HR0 := Lib.hid (show OwnAt ((w.alloc (.cells (insCells x).toArray 23)).alloc (.cells (insCells (zeroI 0)).toArray 23)) (w.heap.size + 1) (insCells (zeroI 0)) 23 by
    have := OwnAt.new (w.alloc (.cells (insCells x).toArray 23)) (insCells (zeroI 0)) 23
    rw [hs1'] at this; exact this)
  have HO1 := Lib.hid (HO0.out.old ((Below.refl _ _).alloc (Nat.le_refl _) (.cells (insCells (zeroI 0)).toArray 23)))
  have HB1 := Lib.hid (((Below.refl w.heap.size w).alloc (Nat.le_refl _) (.cells (insCells x).toArray 23)).alloc (by simp) (.cells (insCells (zeroI 0)).toArray 23))
  have hs2 : ((w.alloc (.cells (insCells x).toArray 23)).alloc (.cells (insCells (zeroI 0)).toArray 23)).heap.size = w.heap.size + 1 + 1 := by simp
  unfold insV
  go_enter Tryd.func5, Tryd.ntmps5
  go_wp2_with fail
  refine (HK.out _).mono ?_
  rintro e w2 ⟨rfl, hw2⟩
  have HO2 : Hid (OwnAt w2 w.heap.size (insCells x) 23) := Lib.hid (by rw [← hw2]; exact HO1.out)
  have HR2 : Hid (OwnAt w2 (w.heap.size + 1) (insCells (zeroI 0)) 23) := Lib.hid (by rw [← hw2]; exact HR0.out)
  have HB2 : Hid (Below w.heap.size w w2) := Lib.hid (by rw [← hw2]; exact HB1.out)
  have hs3 : w2.heap.size = w.heap.size + 1 + 1 := by rw [← hw2]; exact hs2
  clear hw2 HO0 hs1' HR0 HO1 HB1 hs2
  have HX := Lib.hid (show OwnAt (w2.alloc (.cells #[.int .i64 (1 + k), .int .i64 0, .int .i64 0, .int .i64 0, .int .i64 0, .string ⟨#[]⟩] 23)) w2.heap.size (insCells (zeroI (1 + k))) 23 from OwnAt.new w2 (insCells (zeroI (1 + k))) 23)
  rw [hs3] at HX
  have HO3 := Lib.hid (HO2.out.old ((Below.refl _ _).alloc (Nat.le_refl _) (.cells #[.int .i64 (1 + k), .int .i64 0, .int .i64 0, .int .i64 0, .int .i64 0, .string ⟨#[]⟩] 23)))
  have HR3 := Lib.hid (HR2.out.old ((Below.refl _ _).alloc (Nat.le_refl _) (.cells #[.int .i64 (1 + k), .int .i64 0, .int .i64 0, .int .i64 0, .int .i64 0, .string ⟨#[]⟩] 23)))
  have HB3 := Lib.hid (HB2.out.alloc HB2.out.size (.cells #[.int .i64 (1 + k), .int .i64 0, .int .i64 0, .int .i64 0, .int .i64 0, .string ⟨#[]⟩] 23))
  have il := HO2.out.lt
  have i1 := HO2.out.at 1 _ rfl
  go_wp2_with fail
  obtain ⟨W3, hW3⟩ : ∃ W3, w2.alloc (.cells #[.int .i64 (1 + k), .int .i64 0, .int .i64 0, .int .i64 0, .int .i64 0, .string ⟨#[]⟩] 23) = W3 := ⟨_, rfl⟩
  rw [hW3] at HX HO3 HR3 HB3 ⊢
  clear hW3 HO2 HR2 HB2 il i1 hs3
  have i1 := HO3.out.at 1 _ rfl
  have i2 := HO3.out.at 2 _ rfl
  have i3 := HO3.out.at 3 _ rfl
  have i4 := HO3.out.at 4 _ rfl
  have x0 : W3.cell? ⟨w.heap.size + 1 + 1, 0, none⟩ = some (.int .i64 (1 + k)) := HX.out.at 0 _ rfl
  have fx0 := HX.out.fz 0
  have x1 : W3.cell? ⟨w.heap.size + 1 + 1, 1, none⟩ = some (.int .i64 0) := HX.out.at 1 _ rfl
  have fx1 := HX.out.fz 1
  have x2 : W3.cell? ⟨w.heap.size + 1 + 1, 2, none⟩ = some (.int .i64 0) := HX.out.at 2 _ rfl
  have fx2 := HX.out.fz 2
  have x3 : W3.cell? ⟨w.heap.size + 1 + 1, 3, none⟩ = some (.int .i64 0) := HX.out.at 3 _ rfl
  have fx3 := HX.out.fz 3
  have x4 : W3.cell? ⟨w.heap.size + 1 + 1, 4, none⟩ = some (.int .i64 0) := HX.out.at 4 _ rfl
  have fx4 := HX.out.fz 4
  have x5 : W3.cell? ⟨w.heap.size + 1 + 1, 5, none⟩ = some (.string ⟨#[]⟩) := HX.out.at 5 _ rfl
  have fx5 := HX.out.fz 5
  have g0 := HR3.out.at 0 _ rfl
  have fg0 := HR3.out.fz 0
  have g1 := HR3.out.at 1 _ rfl
  have fg1 := HR3.out.fz 1
  have g2 := HR3.out.at 2 _ rfl
  have fg2 := HR3.out.fz 2
  have g3 := HR3.out.at 3 _ rfl
  have fg3 := HR3.out.fz 3
  have g4 := HR3.out.at 4 _ rfl
  have fg4 := HR3.out.fz 4
  have g5 := HR3.out.at 5 _ rfl
  have fg5 := HR3.out.fz 5
  have xl := HX.out.lt
  refine (HD.out _).mono ?_
  rintro e w4 ⟨rfl, hw4⟩
  subst hw4
  go_wp2_with fail
  refine (HA.out _).mono ?_
  rintro e w4 ⟨rfl, hw4⟩
  subst hw4
  go_wp2_with fail
  refine (HB.out _).mono ?_
  rintro e w4 ⟨rfl, hw4⟩
  subst hw4
  go_wp2_with fail
  refine (HS.out _).mono ?_
  rintro e w4 ⟨rfl, hw4⟩
  subst hw4
  go_wp2_with fail
  have HXn := Lib.hid HX.out
  have HRn := Lib.hid HR3.out
  have HBn := Lib.hid HB3.out
  refine (HN.out _).mono ?_
  rintro e w9 ⟨rfl, hb9⟩
  have HX9 := Lib.hid (HXn.out.old hb9)
  have HR9 := Lib.hid (HRn.out.old hb9)
  have HB9 := Lib.hid (HBn.out.trans (hb9.mono HBn.out.size))
  clear hb9 HXn HRn HBn x0 fx0 g0 fg0 x1 fx1 g1 fg1 x2 fx2 g2 fg2 x3 fx3 g3 fg3 x4 fx4 g4 fg4 x5 fx5 g5 fg5
  have m5 := HX9.out.fz 5
  have nl := HX9.out.lt
  have HXe := Lib.hid (HX9.out.set 5 (.string (strOf nm)))
  have HRe := Lib.hid (HR9.out.other (show w.heap.size + 1 ≠ w.heap.size + 1 + 1 by omega) 5 (.string (strOf nm)))
  have HBe := Lib.hid (zbelow_set HB9.out (show w.heap.size ≤ w.heap.size + 1 + 1 by omega) 5 (.string (strOf nm)))
  have g0 := HR9.out.at 0 _ rfl
  have fg0 := HR9.out.fz 0
  have g1 := HR9.out.at 1 _ rfl
  have fg1 := HR9.out.fz 1
  have g2 := HR9.out.at 2 _ rfl
  have fg2 := HR9.out.fz 2
  have g3 := HR9.out.at 3 _ rfl
  have fg3 := HR9.out.fz 3
  have g4 := HR9.out.at 4 _ rfl
  have fg4 := HR9.out.fz 4
  have g5 := HR9.out.at 5 _ rfl
  have fg5 := HR9.out.fz 5
  have k0 : w9.cell? ⟨w.heap.size + 1 + 1, 0, none⟩ = some (.int .i64 (1 + k)) := HX9.out.at 0 _ rfl
  have k1 : w9.cell? ⟨w.heap.size + 1 + 1, 1, none⟩ = some (.int .i64 0) := HX9.out.at 1 _ rfl
  have k2 : w9.cell? ⟨w.heap.size + 1 + 1, 2, none⟩ = some (.int .i64 0) := HX9.out.at 2 _ rfl
  have k3 : w9.cell? ⟨w.heap.size + 1 + 1, 3, none⟩ = some (.int .i64 0) := HX9.out.at 3 _ rfl
  have k4 : w9.cell? ⟨w.heap.size + 1 + 1, 4, none⟩ = some (.int .i64 0) := HX9.out.at 4 _ rfl
  have k5 : w9.cell? ⟨w.heap.size + 1 + 1, 5, none⟩ = some (.string ⟨#[]⟩) := HX9.out.at 5 _ rfl
  have gl := HR9.out.lt
  go_wp2_with fail
  have HE := Lib.hid ((((((HRe.out.set 0 (.int .i64 (1 + k))).set 1 (.int .i64 0)).set 2 (.int .i64 0)).set 3 (.int .i64 0)).set 4 (.int .i64 0)).set 5 (.string (strOf nm)))
  have e0 := HE.out.at 0 _ rfl
  have e1 := HE.out.at 1 _ rfl
  have e2 := HE.out.at 2 _ rfl
  have e3 := HE.out.at 3 _ rfl
  have e4 := HE.out.at 4 _ rfl
  have e5 := HE.out.at 5 _ rfl
  exact bodyPost_ret (v := .agg #[.int .i64 (1 + k), .int .i64 0, .int .i64 0, .int .i64 0, .int .i64 0, .string (strOf nm)]) (by simp [results, Tryd.results5, go_sem, e0, e1, e2, e3, e4, e5]) rfl ⟨rfl, set6b _ _ _ _ HBe.out (by omega) _ _ _ _ _ _⟩
end Go.Proofs.YtgdnnaiidmfncaaDoor

namespace Go.Proofs.YtgdnnaiidmfncaaDoor
open Go.RowKit
set_option maxHeartbeats 4000000
set_option maxRecDepth 100000

theorem fit_c10 (x : Ins) (k d a b s : Int) (nm : Bs) (hk0 : 0 ≤ k) (hk1 : k < 28) (hs0 : 0 ≤ s) (hs1 : s < 4095)
    (HK : Hid (∀ w, Calls Tryd.prog 15 #[.int .i64 x.op, .int .i64 28] w fun e w' => e = .returned (.int .i64 k) ∧ w = w'))
    (HD : Hid (∀ w, Calls Tryd.prog 15 #[.int .i64 x.d, .int .i64 32] w fun e w' => e = .returned (.int .i64 d) ∧ w = w'))
    (HA : Hid (∀ w, Calls Tryd.prog 15 #[.int .i64 x.a, .int .i64 32] w fun e w' => e = .returned (.int .i64 a) ∧ w = w'))
    (HB : Hid (∀ w, Calls Tryd.prog 15 #[.int .i64 x.b, .int .i64 32] w fun e w' => e = .returned (.int .i64 b) ∧ w = w'))
    (HS : Hid (∀ w, Calls Tryd.prog 15 #[.int .i64 x.n, .int .i64 4095] w fun e w' => e = .returned (.int .i64 s) ∧ w = w'))
    (HN : Hid (∀ w, Calls Tryd.prog 20 #[.int .i64 x.n] w fun e w' => e = .returned (.string (strOf nm)) ∧ Below w.heap.size w w'))
    (h0 : (26 < 1 + k)) (h1 : (12 < 1 + k)) (h2 : (15 < 1 + k)) (h3 : ((1 + k == 16) = false)) (h4 : ((1 + k == 17) = false)) (h5 : ((1 + k == 18) = false)) (h6 : ((1 + k == 19) = false)) (h7 : ((1 + k == 20) = false)) (h8 : (24 < 1 + k)) (w : World) :
    Calls Tryd.prog 5 #[insV x] w fun e w' => e = .returned (insV ⟨1 + k, 0, 0, 0, 0, []⟩) ∧ Below w.heap.size w w' := by
  have HO0 := Lib.hid (OwnAt.new w (insCells x) 23)
  have hs1' : (w.alloc (.cells (insCells x).toArray 23)).heap.size = w.heap.size + 1 := by simp
  have HR0 := Lib.hid (show OwnAt ((w.alloc (.cells (insCells x).toArray 23)).alloc (.cells (insCells (zeroI 0)).toArray 23)) (w.heap.size + 1) (insCells (zeroI 0)) 23 by
    have := OwnAt.new (w.alloc (.cells (insCells x).toArray 23)) (insCells (zeroI 0)) 23
    rw [hs1'] at this; exact this)
  have HO1 := Lib.hid (HO0.out.old ((Below.refl _ _).alloc (Nat.le_refl _) (.cells (insCells (zeroI 0)).toArray 23)))
  have HB1 := Lib.hid (((Below.refl w.heap.size w).alloc (Nat.le_refl _) (.cells (insCells x).toArray 23)).alloc (by simp) (.cells (insCells (zeroI 0)).toArray 23))
  have hs2 : ((w.alloc (.cells (insCells x).toArray 23)).alloc (.cells (insCells (zeroI 0)).toArray 23)).heap.size = w.heap.size + 1 + 1 := by simp
  unfold insV
  go_enter Tryd.func5, Tryd.ntmps5
  go_wp2_with fail
  refine (HK.out _).mono ?_
  rintro e w2 ⟨rfl, hw2⟩
  have HO2 : Hid (OwnAt w2 w.heap.size (insCells x) 23) := Lib.hid (by rw [← hw2]; exact HO1.out)
  have HR2 : Hid (OwnAt w2 (w.heap.size + 1) (insCells (zeroI 0)) 23) := Lib.hid (by rw [← hw2]; exact HR0.out)
  have HB2 : Hid (Below w.heap.size w w2) := Lib.hid (by rw [← hw2]; exact HB1.out)
  have hs3 : w2.heap.size = w.heap.size + 1 + 1 := by rw [← hw2]; exact hs2
  clear hw2 HO0 hs1' HR0 HO1 HB1 hs2
  have HX := Lib.hid (show OwnAt (w2.alloc (.cells #[.int .i64 (1 + k), .int .i64 0, .int .i64 0, .int .i64 0, .int .i64 0, .string ⟨#[]⟩] 23)) w2.heap.size (insCells (zeroI (1 + k))) 23 from OwnAt.new w2 (insCells (zeroI (1 + k))) 23)
  rw [hs3] at HX
  have HO3 := Lib.hid (HO2.out.old ((Below.refl _ _).alloc (Nat.le_refl _) (.cells #[.int .i64 (1 + k), .int .i64 0, .int .i64 0, .int .i64 0, .int .i64 0, .string ⟨#[]⟩] 23)))
  have HR3 := Lib.hid (HR2.out.old ((Below.refl _ _).alloc (Nat.le_refl _) (.cells #[.int .i64 (1 + k), .int .i64 0, .int .i64 0, .int .i64 0, .int .i64 0, .string ⟨#[]⟩] 23)))
  have HB3 := Lib.hid (HB2.out.alloc HB2.out.size (.cells #[.int .i64 (1 + k), .int .i64 0, .int .i64 0, .int .i64 0, .int .i64 0, .string ⟨#[]⟩] 23))
  have il := HO2.out.lt
  have i1 := HO2.out.at 1 _ rfl
  go_wp2_with fail
  obtain ⟨W3, hW3⟩ : ∃ W3, w2.alloc (.cells #[.int .i64 (1 + k), .int .i64 0, .int .i64 0, .int .i64 0, .int .i64 0, .string ⟨#[]⟩] 23) = W3 := ⟨_, rfl⟩
  rw [hW3] at HX HO3 HR3 HB3 ⊢
  clear hW3 HO2 HR2 HB2 il i1 hs3
  have i1 := HO3.out.at 1 _ rfl
  have i2 := HO3.out.at 2 _ rfl
  have i3 := HO3.out.at 3 _ rfl
  have i4 := HO3.out.at 4 _ rfl
  have x0 : W3.cell? ⟨w.heap.size + 1 + 1, 0, none⟩ = some (.int .i64 (1 + k)) := HX.out.at 0 _ rfl
  have fx0 := HX.out.fz 0
  have x1 : W3.cell? ⟨w.heap.size + 1 + 1, 1, none⟩ = some (.int .i64 0) := HX.out.at 1 _ rfl
  have fx1 := HX.out.fz 1
  have x2 : W3.cell? ⟨w.heap.size + 1 + 1, 2, none⟩ = some (.int .i64 0) := HX.out.at 2 _ rfl
  have fx2 := HX.out.fz 2
  have x3 : W3.cell? ⟨w.heap.size + 1 + 1, 3, none⟩ = some (.int .i64 0) := HX.out.at 3 _ rfl
  have fx3 := HX.out.fz 3
  have x4 : W3.cell? ⟨w.heap.size + 1 + 1, 4, none⟩ = some (.int .i64 0) := HX.out.at 4 _ rfl
  have fx4 := HX.out.fz 4
  have x5 : W3.cell? ⟨w.heap.size + 1 + 1, 5, none⟩ = some (.string ⟨#[]⟩) := HX.out.at 5 _ rfl
  have fx5 := HX.out.fz 5
  have g0 := HR3.out.at 0 _ rfl
  have fg0 := HR3.out.fz 0
  have g1 := HR3.out.at 1 _ rfl
  have fg1 := HR3.out.fz 1
  have g2 := HR3.out.at 2 _ rfl
  have fg2 := HR3.out.fz 2
  have g3 := HR3.out.at 3 _ rfl
  have fg3 := HR3.out.fz 3
  have g4 := HR3.out.at 4 _ rfl
  have fg4 := HR3.out.fz 4
  have g5 := HR3.out.at 5 _ rfl
  have fg5 := HR3.out.fz 5
  have xl := HX.out.lt
  refine (HD.out _).mono ?_
  rintro e w4 ⟨rfl, hw4⟩
  subst hw4
  go_wp2_with fail
  refine (HA.out _).mono ?_
  rintro e w4 ⟨rfl, hw4⟩
  subst hw4
  go_wp2_with fail
  refine (HB.out _).mono ?_
  rintro e w4 ⟨rfl, hw4⟩
  subst hw4
  go_wp2_with fail
  refine (HS.out _).mono ?_
  rintro e w4 ⟨rfl, hw4⟩
  subst hw4
  go_wp2_with fail
  have HRe := Lib.hid HR3.out
  have HBe := Lib.hid HB3.out
  have HE := Lib.hid ((((((HRe.out.set 0 (.int .i64 (1 + k))).set 1 (.int .i64 0)).set 2 (.int .i64 0)).set 3 (.int .i64 0)).set 4 (.int .i64 0)).set 5 (.string ⟨#[]⟩))
  have e0 := HE.out.at 0 _ rfl
  have e1 := HE.out.at 1 _ rfl
  have e2 := HE.out.at 2 _ rfl
  have e3 := HE.out.at 3 _ rfl
  have e4 := HE.out.at 4 _ rfl
  have e5 := HE.out.at 5 _ rfl
  exact bodyPost_ret (v := .agg #[.int .i64 (1 + k), .int .i64 0, .int .i64 0, .int .i64 0, .int .i64 0, .string ⟨#[]⟩]) (by simp [results, Tryd.results5, go_sem, e0, e1, e2, e3, e4, e5]) rfl ⟨rfl, set6b _ _ _ _ HBe.out (by omega) _ _ _ _ _ _⟩
end Go.Proofs.YtgdnnaiidmfncaaDoor

namespace Go.Proofs.YtgdnnaiidmfncaaDoor
open Go.RowKit
set_option maxHeartbeats 4000000
set_option maxRecDepth 100000

theorem fit_any (x : Ins) (h : RawI x) (w : World) :
    Calls Tryd.prog 5 #[insV x] w fun e w' => e = .returned (insV (fitI x)) ∧ Below w.heap.size w w' := by
  have hk := ipick_range x.op 28 (by decide)
  have hs := ipick_range x.n 4095 (by decide)
  have HK := Lib.hid (fun w => ipick_any x.op 28 h.op (by decide) (by decide) w)
  have HD := Lib.hid (fun w => ipick_any x.d 32 h.d (by decide) (by decide) w)
  have HA := Lib.hid (fun w => ipick_any x.a 32 h.a (by decide) (by decide) w)
  have HB := Lib.hid (fun w => ipick_any x.b 32 h.b (by decide) (by decide) w)
  have HS := Lib.hid (fun w => ipick_any x.n 4095 h.n (by decide) (by decide) w)
  have HN := Lib.hid (fun w => iname_any x.n h.n w)
  unfold fitI
  dsimp only
  generalize ipick x.op 28 = k at *
  obtain ⟨hk0, hk1⟩ := hk
  obtain ⟨hs0, hs1⟩ := hs
  have ne : ∀ z : Int, ¬ (1 + k = z) → (1 + k == z) = false := fun z h => by simpa using h
  have eq : ∀ z : Int, 1 + k = z → (1 + k == z) = true := fun z h => by simpa using h
  by_cases h0 : 1 + k ≤ 12
  · rw [if_pos h0]; exact fit_c1 x k _ _ _ _ _ hk0 hk1 hs0 hs1 HK HD HA HB HS HN (by omega) w
  · rw [if_neg h0]
    by_cases h1 : 1 + k ≤ 15
    · rw [if_pos h1]; exact fit_c2 x k _ _ _ _ _ hk0 hk1 hs0 hs1 HK HD HA HB HS HN (by omega) (by omega) w
    · rw [if_neg h1]
      by_cases h2 : 1 + k = 16
      · rw [if_pos h2]; exact fit_c3 x k _ _ _ _ _ hk0 hk1 hs0 hs1 HK HD HA HB HS HN (eq 16 (by omega)) (by omega) (by omega) w
      · rw [if_neg h2]
        by_cases h3 : 1 + k = 17
        · rw [if_pos h3]; exact fit_c4 x k _ _ _ _ _ hk0 hk1 hs0 hs1 HK HD HA HB HS HN (eq 17 (by omega)) (by omega) (by omega) (ne 16 (by omega)) w
        · rw [if_neg h3]
          by_cases h4 : 1 + k = 18 ∨ 1 + k = 19
          · rw [if_pos h4]
            by_cases h18 : 1 + k = 18
            · exact fit_c5 x k _ _ _ _ _ hk0 hk1 hs0 hs1 HK HD HA HB HS HN (eq 18 (by omega)) (by omega) (by omega) (ne 16 (by omega)) (ne 17 (by omega)) w
            · exact fit_c6 x k _ _ _ _ _ hk0 hk1 hs0 hs1 HK HD HA HB HS HN (eq 19 (by omega)) (by omega) (by omega) (ne 16 (by omega)) (ne 17 (by omega)) (ne 18 (by omega)) w
          · rw [if_neg h4]
            by_cases h5 : 1 + k = 20
            · rw [if_pos h5]; exact fit_c7 x k _ _ _ _ _ hk0 hk1 hs0 hs1 HK HD HA HB HS HN (eq 20 (by omega)) (by omega) (by omega) (ne 16 (by omega)) (ne 17 (by omega)) (ne 18 (by omega)) (ne 19 (by omega)) w
            · rw [if_neg h5]
              by_cases h6 : 1 + k ≤ 24
              · rw [if_pos h6]; exact fit_c8 x k _ _ _ _ _ hk0 hk1 hs0 hs1 HK HD HA HB HS HN (by omega) (by omega) (by omega) (ne 16 (by omega)) (ne 17 (by omega)) (ne 18 (by omega)) (ne 19 (by omega)) (ne 20 (by omega)) w
              · rw [if_neg h6]
                by_cases h7 : 1 + k ≤ 26
                · rw [if_pos h7]; exact fit_c9 x k _ _ _ _ _ hk0 hk1 hs0 hs1 HK HD HA HB HS HN (by omega) (by omega) (by omega) (ne 16 (by omega)) (ne 17 (by omega)) (ne 18 (by omega)) (ne 19 (by omega)) (ne 20 (by omega)) (by omega) w
                · rw [if_neg h7]
                  exact fit_c10 x k _ _ _ _ _ hk0 hk1 hs0 hs1 HK HD HA HB HS HN (by omega) (by omega) (by omega) (ne 16 (by omega)) (ne 17 (by omega)) (ne 18 (by omega)) (ne 19 (by omega)) (ne 20 (by omega)) (by omega) w
end Go.Proofs.YtgdnnaiidmfncaaDoor
