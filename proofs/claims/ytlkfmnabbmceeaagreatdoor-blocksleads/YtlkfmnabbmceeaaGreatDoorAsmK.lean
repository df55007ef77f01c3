/-
  Parse undoes Print, of code that may be: its text's lines are its lines. Plain functions alone.
  Code out of raw lines: what the laws want of it. Plain functions, and its place in memory.
-/
import Derived.Test.YtlkfmnabbmceeaaGreatDoorAsmA
import Derived.Test.YtlkfmnabbmceeaaGreatDoorAsmF
import Derived.Test.YtlkfmnabbmceeaaGreatDoorAsmJ
set_option linter.unusedVariables false
set_option linter.unusedSimpArgs false
namespace Go.Proofs.YtlkfmnabbmceeaaGreatDoor
set_option maxRecDepth 100000
set_option maxHeartbeats 4000000

def lineS (x : Ln) : Bs := if x.label ≠ [] then x.label ++ [58] else 9 :: textI x.ins
def lineC (x : Ln) : Bs := if x.label ≠ [] then x.label ++ [58] else textI x.ins
theorem lineT_is (x : Ln) : lineT x = lineS x ++ [10] := by
  unfold lineT lineS
  by_cases h : x.label ≠ []
  · rw [if_pos h, if_pos h, List.append_assoc]; rfl
  · rw [if_neg h, if_neg h]; rfl
def arr1 : Bs := [46, 97, 114, 114, 97, 121, 32, 97, 32, 52]
def arr2 : Bs := [46, 97, 114, 114, 97, 121, 32, 98, 32, 49, 48]
theorem itoa_4 : Lib.itoa 4 = [52] := by rw [Lib.itoa, if_neg (by decide), Lib.decDigits, dif_pos (by decide)]; rfl
theorem itoa_10 : Lib.itoa 10 = [49, 48] := by rw [Lib.itoa, if_neg (by decide), Lib.decDigits, dif_neg (by decide), Lib.decDigits, dif_pos (by decide)]; rfl
theorem arrs_text : arrs2.flatMap arrT = arr1 ++ 10 :: (arr2 ++ [10]) := by
  show arrT ⟨[97], 4⟩ ++ (arrT ⟨[98], 10⟩ ++ []) = _
  unfold arrT
  rw [itoa_4, itoa_10]; rfl
theorem lines_one (w r : Bs) (h : (10 : UInt8) ∉ w) : linesG [] (w ++ 10 :: r) = w :: linesG [] r := by
  rw [lines_app w [] (10 :: r) h, lines_feed]; rfl
theorem lines_many (f : Ln → Bs) (hf : ∀ x, lineT x = f x ++ [10]) : ∀ (L : List Ln) (r : Bs), (∀ x, x ∈ L → (10 : UInt8) ∉ f x) → linesG [] (L.flatMap lineT ++ r) = L.map f ++ linesG [] r
  | [], r, _ => rfl
  | x :: L, r, h => by
    rw [List.flatMap_cons, hf x, List.append_assoc, List.append_assoc, List.singleton_append, lines_one _ _ (h x List.mem_cons_self), lines_many f hf L r (fun y hy => h y (List.mem_cons_of_mem _ hy))]; rfl
/-- A line that may stand. -/
theorem well_open {x : Ln} (h : wellB x = true) : (x.label ≠ [] ∧ labelB x.label = true ∧ x.ins = zeroI 0) ∨ (x.label = [] ∧ rightI x.ins = true) := by
  unfold wellB at h
  by_cases hl : x.label = []
  · rw [if_pos hl] at h; exact .inr ⟨hl, h⟩
  · rw [if_neg hl, Bool.and_eq_true] at h
    exact .inl ⟨hl, h.1, (insEq_iff _ _).1 h.2⟩
theorem lab_no {l : Bs} (h : labelB l = true) {c : UInt8} (hc : txB c = false ∨ sepB c = true ∨ blankC c = true) : c ∉ l := by
  intro hm
  obtain ⟨a, b, d⟩ := tx_lab (label_tx h c hm)
  rcases hc with hc | hc | hc
  · rw [a] at hc; cases hc
  · rw [b] at hc; cases hc
  · rw [d] at hc; cases hc
theorem text_no {x : Ins} (h : rightI x = true) {c : UInt8} (hc : txB c = false) : c ∉ textI x := by
  intro hm
  have := text_tx h c hm
  rw [hc] at this; cases this
theorem lineS_feed {x : Ln} (h : wellB x = true) : (10 : UInt8) ∉ lineS x ∧ (35 : UInt8) ∉ lineS x := by
  unfold lineS
  rcases well_open h with ⟨h1, h2, h3⟩ | ⟨h1, h2⟩
  · rw [if_pos h1]
    constructor
    · rw [List.mem_append, not_or]; exact ⟨lab_no h2 (.inl (by decide)), by decide⟩
    · rw [List.mem_append, not_or]; exact ⟨lab_no h2 (.inl (by decide)), by decide⟩
  · rw [if_neg (by simp [h1])]
    constructor
    · rw [List.mem_cons, not_or]; exact ⟨by decide, text_no h2 (by decide)⟩
    · rw [List.mem_cons, not_or]; exact ⟨by decide, text_no h2 (by decide)⟩
theorem label_ne {l : Bs} (h : labelB l = true) : l ≠ [] := by
  intro e; rw [e] at h; revert h; decide
theorem bare_self {l : Bs} (h0 : (35 : UInt8) ∉ l) (h1 : ∀ c, l.head? = some c → blankC c = false) (h2 : ∀ c, l.getLast? = some c → blankC c = false) : bareA l = l := by
  unfold bareA
  rw [cut_no 35 _ h0]
  exact trim_self h1 h2
theorem bare_line {x : Ln} (h : wellB x = true) : bareA (lineS x) = lineC x ∧ lineC x ≠ [] := by
  have h35 := (lineS_feed h).2
  unfold lineS lineC at *
  rcases well_open h with ⟨h1, h2, h3⟩ | ⟨h1, h2⟩
  · rw [if_pos h1] at h35 ⊢
    rw [if_pos h1]
    refine ⟨bare_self h35 (fun c hc => ?_) (fun c hc => ?_), by simp⟩
    · cases hl : x.label with
      | nil => exact absurd hl h1
      | cons a l =>
        rw [hl] at hc
        simp at hc
        subst hc
        exact (tx_lab (label_tx h2 _ (by rw [hl]; exact List.mem_cons_self))).2.2
    · rw [List.getLast?_append] at hc
      simp at hc
      subst hc; decide
  · rw [if_neg (by simp [h1])] at h35 ⊢
    rw [if_neg (by simp [h1])]
    obtain ⟨c, t, e, k1, k2, k3⟩ := text_head h2
    have hne : textI x.ins ≠ [] := by rw [e]; exact List.cons_ne_nil _ _
    have h35' : (35 : UInt8) ∉ textI x.ins := fun hm => h35 (List.mem_cons_of_mem _ hm)
    refine ⟨?_, hne⟩
    have := bare_both [9] (textI x.ins) [] (by decide) (by decide) h35'
    rw [List.append_nil] at this
    rw [show (9 :: textI x.ins : Bs) = [9] ++ textI x.ins from rfl, this]
    exact bare_self h35' (fun d hd => by rw [e] at hd; cases hd; exact k3) (text_last h2)
theorem prefix_mem {p s : Bs} (h : Lib.hasPrefix s p = true) : ∃ r, s = p ++ r := by
  unfold Lib.hasPrefix at h
  obtain ⟨r, e⟩ := List.isPrefixOf_iff_prefix.1 h
  exact ⟨r, e.symm⟩
theorem suffix_mem {p s : Bs} (h : Lib.hasSuffix s p = true) : ∃ r, s = r ++ p := by
  unfold Lib.hasSuffix at h
  obtain ⟨r, e⟩ := List.isSuffixOf_iff_suffix.1 h
  exact ⟨r, e.symm⟩
theorem no_array {x : Ln} (h : wellB x = true) : arrayA (lineC x) = none := by
  unfold arrayA
  cases hp : Lib.hasPrefix (lineC x) [46, 97, 114, 114, 97, 121, 32] with
  | false => rfl
  | true =>
    exfalso
    obtain ⟨r, e⟩ := prefix_mem hp
    unfold lineC at e
    rcases well_open h with ⟨h1, h2, h3⟩ | ⟨h1, h2⟩
    · rw [if_pos h1] at e
      have : (32 : UInt8) ∈ x.label ++ [58] := by rw [e]; simp
      rcases List.mem_append.1 this with hm | hm
      · exact lab_no h2 (.inr (.inl (by decide))) hm
      · revert hm; decide
    · rw [if_neg (by simp [h1])] at e
      obtain ⟨c, t, e2, k1, k2, k3⟩ := text_head h2
      rw [e2] at e
      injection e with e3
      subst e3
      revert k1; decide
theorem line_back {x : Ln} (h : wellB x = true) (hf : FitsI x.ins) : lineA (lineC x) = (x, true) := by
  unfold lineA lineC
  rcases well_open h with ⟨h1, h2, h3⟩ | ⟨h1, h2⟩
  · rw [show (if x.label ≠ [] then x.label ++ [58] else textI x.ins) = x.label ++ [58] from if_pos h1]
    have hs : Lib.hasSuffix (x.label ++ [58]) [58] = true := by
      unfold Lib.hasSuffix
      exact List.isSuffixOf_iff_suffix.2 ⟨x.label, rfl⟩
    rw [if_pos hs]
    have e : (x.label ++ [58]).take ((x.label ++ [58]).length - 1) = x.label := by simp
    rw [e, h2]
    obtain ⟨l, i⟩ := x
    dsimp only at h3 ⊢
    rw [h3]
  · rw [show (if x.label ≠ [] then x.label ++ [58] else textI x.ins) = textI x.ins from if_neg (by simp [h1])]
    have hs : Lib.hasSuffix (textI x.ins) [58] = false := by
      cases hq : Lib.hasSuffix (textI x.ins) [58] with
      | false => rfl
      | true =>
        obtain ⟨r, e⟩ := suffix_mem hq
        exact absurd (show (58 : UInt8) ∈ textI x.ins by rw [e]; simp) (text_no h2 (by decide))
    rw [if_neg (by rw [hs]; decide), parse_back x.ins hf h2]
    obtain ⟨l, i⟩ := x
    dsimp only at h1 ⊢
    rw [h1]
theorem takeB_line {x : Ln} (h : wellB x = true) (hf : FitsI x.ins) (a : List Ar) (l : List Ln) : takeB a l (lineC x) = some (a, l ++ [x]) := by
  unfold takeB
  rw [no_array h, if_neg (by simp), line_back h hf, if_pos rfl]
theorem takesB_lines : ∀ (L : List Ln) (a : List Ar) (l : List Ln), (∀ x, x ∈ L → wellB x = true ∧ FitsI x.ins) → takesB a l (L.map lineC) = some (a, l ++ L)
  | [], a, l, _ => by rw [List.append_nil]; rfl
  | x :: L, a, l, h => by
    obtain ⟨h1, h2⟩ := h x List.mem_cons_self
    have := takesB_lines L a (l ++ [x]) (fun y hy => h y (List.mem_cons_of_mem _ hy))
    rw [List.append_assoc] at this
    show (match takeB a l (lineC x) with | none => none | some (a', l') => takesB a' l' (L.map lineC)) = _
    rw [takeB_line h1 h2]
    exact this
theorem NE_map (f g : Ln → Bs) : ∀ (L : List Ln) (r : List Bs), (∀ x, x ∈ L → bareA (f x) = g x ∧ g x ≠ []) → NE (L.map f ++ r) = L.map g ++ NE r
  | [], r, _ => rfl
  | x :: L, r, h => by
    obtain ⟨h1, h2⟩ := h x List.mem_cons_self
    rw [List.map_cons, List.cons_append, NE_cons, h1, if_neg h2, NE_map f g L r (fun y hy => h y (List.mem_cons_of_mem _ hy))]; rfl
theorem arr1_bare : bareA arr1 = arr1 := by decide +kernel
theorem arr2_bare : bareA arr2 = arr2 := by decide +kernel
theorem num_back (n : Int) (h0 : -9223372036854775808 ≤ n) (h1 : n ≤ 9223372036854775807) : numA (Lib.itoa n) = some n := by
  unfold numA
  rw [atoi_itoa n h0 h1]
  show (if Lib.itoa n = Lib.itoa n then some n else none) = _
  rw [if_pos rfl]
theorem arr_take (a : List Ar) (s nm t : Bs) (n : Int) (hp : Lib.hasPrefix s [46, 97, 114, 114, 97, 121, 32] = true) (hc : Lib.cut (s.drop 7) [32] = (nm, t, true)) (hn : numA t = some n) (he : arrsE [⟨nm, n⟩] = 0) : takeB a [] s = some (a ++ [⟨nm, n⟩], []) := by
  have ha : arrayA s = some ⟨nm, n⟩ := by
    unfold arrayA
    rw [if_pos hp, hc]
    dsimp only
    rw [hn]
    dsimp only
    rw [if_pos he]
  unfold takeB
  rw [ha, if_pos ⟨rfl, rfl⟩]; rfl
theorem arr1_take : takeB [] [] arr1 = some ([⟨[97], 4⟩], []) :=
  arr_take [] arr1 [97] [52] 4 (by decide) (cut_one 32 [97] [52] (by decide)) (by rw [← itoa_4]; exact num_back 4 (by decide) (by decide)) (by decide)
theorem arr2_take : takeB [⟨[97], 4⟩] [] arr2 = some (arrs2, []) :=
  arr_take [⟨[97], 4⟩] arr2 [98] [49, 48] 10 (by decide) (cut_one 32 [98] [49, 48] (by decide)) (by rw [← itoa_10]; exact num_back 10 (by decide) (by decide)) (by decide)
theorem GoodC.wells {c : Cd} (h : GoodC c) : ∀ x, x ∈ c.lines → wellB x = true ∧ FitsI x.ins := by
  intro x hx
  obtain ⟨j, hj, rfl⟩ := List.getElem_of_mem hx
  refine ⟨h.well hj, ?_⟩
  rcases h.line j hj with ⟨_, _, h3, _⟩ | ⟨_, h2, _⟩
  · exact h3
  · rw [h2]; exact ⟨by decide, by decide⟩
theorem code_lines {c : Cd} (ha : c.arrs = arrs2) (h : ∀ x, x ∈ c.lines → wellB x = true) (r : Bs) : linesG [] (codeT c ++ r) = arr1 :: arr2 :: (c.lines.map lineS ++ linesG [] r) := by
  unfold codeT
  rw [ha, arrs_text, List.append_assoc, List.append_assoc, List.cons_append, lines_one arr1 _ (by decide), List.append_assoc, List.singleton_append, lines_one arr2 _ (by decide), lines_many lineS lineT_is c.lines r (fun x hx => (lineS_feed (h x hx)).1)]
theorem code_ne {c : Cd} (ha : c.arrs = arrs2) (h : ∀ x, x ∈ c.lines → wellB x = true) (r : Bs) : NE (linesG [] (codeT c ++ r)) = arr1 :: arr2 :: (c.lines.map lineC ++ NE (linesG [] r)) := by
  rw [code_lines ha h r, NE_cons, arr1_bare, if_neg (by decide), NE_cons, arr2_bare, if_neg (by decide), NE_map lineS lineC c.lines _ (fun x hx => bare_line (h x hx))]; rfl
theorem code_takes {c : Cd} (h : GoodC c) : takesB [] [] (NE (linesG [] (codeT c))) = some (c.arrs, c.lines) := by
  have e := code_ne h.arrs (fun x hx => (h.wells x hx).1) []
  rw [List.append_nil] at e
  rw [e, show NE (linesG [] []) = [] from by decide, List.append_nil, h.arrs]
  show (match takeB [] [] arr1 with | none => none | some (a', l') => takesB a' l' (arr2 :: c.lines.map lineC)) = _
  rw [arr1_take]
  show (match takeB [⟨[97], 4⟩] [] arr2 with | none => none | some (a', l') => takesB a' l' (c.lines.map lineC)) = _
  rw [arr2_take]
  exact takesB_lines c.lines arrs2 [] h.wells
theorem code_len {c : Cd} (h : GoodC c) : (codeT c).length ≤ 20000 := by
  unfold codeT
  rw [List.length_append, h.arrs, arrs_text]
  have h1 := flat_le lineT 310 c.lines (fun x hx => lineT_len x (h.wells x hx).2 (h.wells x hx).1)
  have h2 := h.len
  have h3 : (arr1 ++ 10 :: (arr2 ++ [10])).length = 22 + 1 := by decide
  rw [h3]
  have : c.lines.length * 310 ≤ 41 * 310 := Nat.mul_le_mul_right _ h2
  omega
theorem code_no35 {c : Cd} (h : GoodC c) : (35 : UInt8) ∉ codeT c := by
  unfold codeT
  rw [List.mem_append, not_or, h.arrs, arrs_text]
  refine ⟨by decide, fun hm => ?_⟩
  obtain ⟨x, hx, hd⟩ := List.mem_flatMap.1 hm
  rw [lineT_is, List.mem_append] at hd
  rcases hd with hd | hd
  · exact (lineS_feed (h.wells x hx).1).2 hd
  · revert hd; decide
theorem good_print {c : Cd} (h : GoodC c) : printC c = (codeT c, 0) := by
  unfold printC
  rw [h.check, if_pos rfl]
theorem good_back {c : Cd} (h : GoodC c) : parseA (codeT c) = (c, 0, 0) := parse_of (by have := code_len h; omega) (code_takes h) h.check
theorem blank_len : ∀ (s : Bs) (bl : List Int), (blankT bl s).length ≤ 8 * s.length
  | [], _ => by simp [blankT]
  | ch :: s, bl => by
    unfold blankT
    split
    · have h1 := blank_len s bl.tail
      have h2 : (sepQ bl).length ≤ 8 := by
        have := sepQ_cases bl
        have h3 : ∀ t, t ∈ sepsQ → t.length ≤ 8 := by decide
        exact h3 _ this
      rw [List.length_append, List.length_cons]; omega
    · have h1 := blank_len s bl
      rw [List.length_cons, List.length_cons]; omega
theorem good_blank {c : Cd} (h : GoodC c) (bl : List Int) : parseA (blankT bl (codeT c)) = (c, 0, 0) := by
  refine parse_of (by have := code_len h; have := blank_len (codeT c) bl; omega) ?_ h.check
  have := NE_blank (codeT c) bl [] [] (code_no35 h) (by simp) (by decide)
  rw [List.nil_append] at this
  rw [this]
  exact code_takes h
end Go.Proofs.YtlkfmnabbmceeaaGreatDoor

namespace Go.Proofs.YtlkfmnabbmceeaaGreatDoor
open Go.RowKit
set_option maxRecDepth 100000
set_option maxHeartbeats 4000000

theorem blank_cons (bl : List Int) (c : UInt8) (s : Bs) : blankT bl (c :: s) = if c = 10 then sepQ bl ++ blankT bl.tail s else c :: blankT bl s := by
  conv => lhs; unfold blankT
theorem blank_app : ∀ (p r : Bs) (bl : List Int), blankT bl (p ++ r) = blankT bl p ++ blankT (bl.drop (p.count 10)) r
  | [], r, bl => by simp [blankT]
  | c :: p, r, bl => by
    rw [List.cons_append, blank_cons, blank_cons]
    by_cases h : c = 10
    · subst h
      rw [if_pos rfl, if_pos rfl, blank_app p r bl.tail, List.append_assoc, List.count_cons_self, ← List.drop_one, List.drop_drop, Nat.add_comm 1]
    · rw [if_neg h, if_neg h, blank_app p r bl, List.cons_append, List.count_cons_of_ne (fun e => h e)]
theorem blank_snoc (p : Bs) (bl : List Int) (c : UInt8) : blankT bl (p ++ [c]) = blankT bl p ++ (if c = 10 then sepQ (bl.drop (p.count 10)) else [c]) := by
  rw [blank_app]
  congr 1
  unfold blankT
  split
  · exact List.append_nil _
  · rfl
theorem sepQ_len (bl : List Int) : (sepQ bl).length ≤ 8 := by
  have h3 : ∀ t, t ∈ sepsQ → t.length ≤ 8 := by decide
  exact h3 _ (sepQ_cases bl)
theorem blank_len2 : ∀ (s : Bs) (bl : List Int), (blankT bl s).length ≤ s.length + 7 * s.count 10
  | [], _ => by simp [blankT]
  | ch :: s, bl => by
    unfold blankT
    by_cases h : ch = 10
    · subst h
      rw [if_pos rfl, List.length_append, List.length_cons, List.count_cons_self]
      have h1 := blank_len2 s bl.tail
      have h2 := sepQ_len bl
      omega
    · rw [if_neg h, List.length_cons, List.length_cons, List.count_cons_of_ne (fun e => h e)]
      have h1 := blank_len2 s bl
      omega
theorem count_lines : ∀ L : List Ln, (∀ x, x ∈ L → wellB x = true) → (L.flatMap lineT).count 10 = L.length
  | [], _ => rfl
  | x :: L, h => by
    rw [List.flatMap_cons, List.count_append, count_lines L (fun y hy => h y (List.mem_cons_of_mem _ hy)), lineT_is, List.count_append, List.count_eq_zero.2 (lineS_feed (h x List.mem_cons_self)).1, List.length_cons, show ([10] : Bs).count 10 = 1 from rfl]
    omega
theorem code_count {c : Cd} (h : GoodC c) : (codeT c).count 10 ≤ 43 := by
  unfold codeT
  rw [List.count_append, h.arrs, arrs_text, count_lines c.lines (fun x hx => (h.wells x hx).1), show List.count (10 : UInt8) ((arr1 : Bs) ++ (10 : UInt8) :: ((arr2 : Bs) ++ [(10 : UInt8)])) = 2 from by decide]
  have := h.len
  omega
theorem take_count (s : Bs) (i : Nat) : (s.take i).count 10 ≤ s.count 10 := by
  have := List.count_append (a := (10 : UInt8)) (l₁ := s.take i) (l₂ := s.drop i)
  rw [List.take_append_drop] at this
  omega
theorem take_len_count (s : Bs) (i : Nat) (bl : List Int) : (blankT bl (s.take i)).length ≤ s.length + 7 * s.count 10 := by
  have h1 := blank_len2 (s.take i) bl
  have h2 := take_count s i
  have h3 : (s.take i).length ≤ s.length := by rw [List.length_take]; omega
  omega
theorem GoodC.short {c : Cd} (h : GoodC c) : ShortC c := by
  refine ⟨fun x hx => ?_, fun a ha => ?_⟩
  · obtain ⟨hw, _⟩ := h.wells x hx
    rcases well_open hw with ⟨h1, h2, h3⟩ | ⟨h1, h2⟩
    · exact ⟨by have := (label_mem h2).2.2; omega, by rw [h3]; exact Nat.zero_le _⟩
    · exact ⟨by rw [h1]; exact Nat.zero_le _, by have := right_name h2; omega⟩
  · rw [h.arrs] at ha
    have : ∀ a, a ∈ arrs2 → a.name.length ≤ 1 := by decide
    have := this a ha; omega
theorem GoodC.alen {c : Cd} (h : GoodC c) : c.arrs.length ≤ 1000 := by rw [h.arrs]; decide
theorem arr_at {w : World} {A : Nat} (h : OwnAt w A arrC 45) : ArwAt w arrs2 (.slice (some ⟨A, 0, none⟩) 2 2) := by
  refine ⟨some ⟨A, 0, none⟩, 2, A, 0, rfl, .inr rfl, by decide, fun i p hi q u hq => ?_⟩
  have hqk : q < 2 := by rw [← arCells_len p]; exact (List.getElem?_eq_some_iff.1 hq).1
  rw [Nat.zero_add]
  exact h.at (i * 2 + q) u (by rw [← arrC_is, iflat_at arCells 2 arCells_len arrs2 i q p hi hqk]; exact hq)
theorem FitOwn.code {H : Nat} {w : World} {c : Cd} {A base : Nat} {vl : Value} (h : FitOwn H w c.lines A base vl) (ha : c.arrs = arrs2) (hl : c.lines.length ≤ 140737488355328) : CodeAt w c (.slice (some ⟨A, 0, none⟩) 2 2) vl :=
  ⟨by rw [ha]; exact arr_at h.aa, RwOwn.nilv h.ln hl lnCells_len⟩
theorem FitOwn.old {H : Nat} {w w' : World} {ls : List Ln} {A base : Nat} {vl : Value} (h : FitOwn H w ls A base vl) (hb : Below w.heap.size w w') : FitOwn H w' ls A base vl :=
  ⟨h.aa.old hb, RwOwn.old h.ln hb, h.lo, h.ab, Nat.le_trans h.le hb.size⟩
/-- Raw lines that come in. -/
structure RawQ (w : World) (raw : List Ln) (v : Value) : Prop where
  at' : LnsAt w raw v
  ok : RawL raw
  short : ∀ x, x ∈ raw → LimL x
theorem RawQ.old {w w' : World} {raw : List Ln} {v : Value} (h : RawQ w raw v) (hb : Below w.heap.size w w') : RawQ w' raw v := ⟨h.at'.old hb, h.ok, h.short⟩
/-- Fit, as the laws use it: its code is good. -/
theorem fit_good (raw : List Ln) (v : Value) (w : World) (h : RawQ w raw v) :
    Calls Tryz.prog 7 #[v] w fun e w' => ∃ A base a cap, e = .returned (.agg #[.slice (some ⟨A, 0, none⟩) 2 2, .slice a (fitC raw).lines.length cap]) ∧ FitOwn w.heap.size w' (fitC raw).lines A base (.slice a (fitC raw).lines.length cap) ∧ Below w.heap.size w w' := by
  refine (rawfit_any raw h.ok h.short v w h.at').mono ?_
  rintro e w' ⟨A, base, vl, h1, h2, h3⟩
  obtain ⟨a, cap, rfl⟩ := RwOwn.shape h2.ln
  exact ⟨A, base, a, cap, h1, h2, h3⟩
end Go.Proofs.YtlkfmnabbmceeaaGreatDoor
