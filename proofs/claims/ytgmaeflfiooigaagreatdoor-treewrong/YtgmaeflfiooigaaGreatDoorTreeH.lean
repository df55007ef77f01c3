/-
  Unlike right expressions have unlike texts: plain functions alone. No program in sight.
  Unlike right expressions have unlike texts, second part: parts by their first byte. No program in sight.
  Unlike right statements have unlike texts. No program in sight.
-/
import Derived.Test.YtgmaeflfiooigaaGreatDoorTreeA
set_option linter.unusedVariables false
set_option linter.unusedSimpArgs false
namespace Go.Proofs.YtgmaeflfiooigaaGreatDoor

/-- The seven forms of what may be. -/
inductive Canon : Ex → Prop
  | num (n : Int) (h : 0 ≤ n) : Canon (.mk 1 0 n [] [])
  | var (nm : Bs) (h : isName nm = true) : Canon (.mk 2 0 0 nm [])
  | one (o : Int) (x : Ex) (h : o = 17 ∨ o = 18 ∨ o = 19) (hx : wellOk x = true) : Canon (.mk 3 o 0 [] [x])
  | two (o : Int) (x y : Ex) (h : 0 < levelOf o) (hx : wellOk x = true) (hy : wellOk y = true) : Canon (.mk 4 o 0 [] [x, y])
  | call (nm : Bs) (l : List Ex) (h : isName nm = true) (hn : l.length ≤ 6) (hl : ∀ x, x ∈ l → wellOk x = true) : Canon (.mk 5 0 0 nm l)
  | index (nm : Bs) (x : Ex) (h : isName nm = true) (hx : wellOk x = true) : Canon (.mk 6 0 0 nm [x])
  | read : Canon (.mk 7 0 0 [] [])
theorem len2 {α : Type} {l : List α} (h : l.length = 2) : ∃ x y, l = [x, y] := by
  match l, h with
  | [x, y], _ => exact ⟨x, y, rfl⟩
theorem canon {e : Ex} (h : wellOk e = true) : Canon e := by
  obtain ⟨k, o, n, nm, l⟩ := e
  rw [wellOk_eq, Bool.and_eq_true] at h
  obtain ⟨h, ha0⟩ := h
  have ha : ∀ x, x ∈ l → wellOk x = true := List.all_eq_true.1 ha0
  clear ha0
  unfold wellHere at h
  simp only [Bool.and_eq_true, beq_iff_eq] at h
  obtain ⟨⟨⟨⟨h1, h2⟩, h3⟩, h4⟩, h5⟩ := h
  simp only [onlyOk, onlyArgs, onlyOp, onlyN, onlyName, Ex.kind, Ex.op, Ex.n, Ex.name, Ex.args] at h1 h2 h3 h4 h5
  have hk : k = 1 ∨ k = 2 ∨ k = 3 ∨ k = 4 ∨ k = 5 ∨ k = 6 ∨ k = 7 := by
    by_cases c1 : k = 1
    · omega
    by_cases c2 : k = 2
    · omega
    by_cases c3 : k = 3
    · omega
    by_cases c4 : k = 4
    · omega
    by_cases c5 : k = 5
    · omega
    by_cases c6 : k = 6
    · omega
    simp only [c1, c2, c3, c4, c5, c6, if_false] at h1
    have := of_decide_eq_true h1; omega
  rcases hk with rfl | rfl | rfl | rfl | rfl | rfl | rfl
  · simp only [Int.reduceEq, if_true, if_false, or_self, reduceIte] at h1 h2 h3 h4 h5
    have hl : l = [] := List.length_eq_zero_iff.1 (by omega)
    subst hl; subst h3; subst h5
    exact .num n (of_decide_eq_true h1)
  · simp only [Int.reduceEq, if_true, if_false, or_self, or_false, false_or, true_or, or_true, reduceIte] at h1 h2 h3 h4 h5
    have hl : l = [] := List.length_eq_zero_iff.1 (by omega)
    subst hl; subst h3; subst h4
    exact .var nm h1
  · simp only [Int.reduceEq, if_true, if_false, or_self, or_false, false_or, true_or, or_true, reduceIte] at h1 h2 h3 h4 h5
    obtain ⟨x, rfl⟩ := List.length_eq_one_iff.1 (show l.length = 1 by omega)
    subst h5; subst h4
    exact .one o x (of_decide_eq_true h1) (ha x List.mem_cons_self)
  · simp only [Int.reduceEq, if_true, if_false, or_self, or_false, false_or, true_or, or_true, reduceIte] at h1 h2 h3 h4 h5
    obtain ⟨x, y, rfl⟩ := len2 (show l.length = 2 by omega)
    subst h5; subst h4
    exact .two o x y (of_decide_eq_true h1) (ha x List.mem_cons_self) (ha y (by simp))
  · simp only [Int.reduceEq, if_true, if_false, or_self, or_false, false_or, true_or, or_true, reduceIte, Bool.and_eq_true] at h1 h2 h3 h4 h5
    subst h3; subst h4
    exact .call nm l h1.1 (by have := of_decide_eq_true h1.2; omega) ha
  · simp only [Int.reduceEq, if_true, if_false, or_self, or_false, false_or, true_or, or_true, reduceIte] at h1 h2 h3 h4 h5
    obtain ⟨x, rfl⟩ := List.length_eq_one_iff.1 (show l.length = 1 by omega)
    subst h3; subst h4
    exact .index nm x h1 (ha x List.mem_cons_self)
  · simp only [Int.reduceEq, if_true, if_false, or_self, or_false, false_or, true_or, or_true, reduceIte] at h1 h2 h3 h4 h5
    have hl : l = [] := List.length_eq_zero_iff.1 (by omega)
    subst hl; subst h3; subst h4; subst h5
    exact .read

/-- No byte of p at the head. -/
def Free (p : UInt8 → Bool) (r : Bs) : Prop := ∀ c l, r = c :: l → p c = false
theorem Free.nil (p : UInt8 → Bool) : Free p [] := fun c l h => by cases h
theorem Free.cons {p : UInt8 → Bool} {c : UInt8} {l : Bs} (h : p c = false) : Free p (c :: l) := fun d m e => by cases e; exact h
/-- A piece of bytes of p, and what does not go on so. -/
theorem span_eq (p : UInt8 → Bool) : ∀ (a b r s : Bs), (∀ x, x ∈ a → p x = true) → (∀ x, x ∈ b → p x = true) → Free p r → Free p s → a ++ r = b ++ s → a = b ∧ r = s
  | [], [], r, s, _, _, _, _, h => ⟨rfl, h⟩
  | [], y :: b, r, s, _, hb, hr, _, h => by
    have := hr y (b ++ s) h
    rw [hb y List.mem_cons_self] at this; cases this
  | x :: a, [], r, s, ha, _, _, hs, h => by
    have := hs x (a ++ r) h.symm
    rw [ha x List.mem_cons_self] at this; cases this
  | x :: a, y :: b, r, s, ha, hb, hr, hs, h => by
    simp only [List.cons_append, List.cons.injEq] at h
    obtain ⟨rfl, h⟩ := h
    obtain ⟨h1, h2⟩ := span_eq p a b r s (fun x hx => ha x (List.mem_cons_of_mem _ hx)) (fun x hx => hb x (List.mem_cons_of_mem _ hx)) hr hs h
    exact ⟨by rw [h1], h2⟩

def isNC (c : UInt8) : Bool := isLetter c || isDigit c
theorem isNameAt_all : ∀ (b : Bool) (l : Bs), isNameAt b l = true → ∀ x, x ∈ l → isNC x = true
  | _, [], _, x, hx => by cases hx
  | b, c :: l, h, x, hx => by
    rw [isNameAt, Bool.and_eq_true] at h
    rcases List.mem_cons.1 hx with rfl | hx
    · have := h.1; unfold isNC; revert this; cases isLetter x <;> cases isDigit x <;> simp
    · exact isNameAt_all false l h.2 x hx
theorem isName_parts {l : Bs} (h : isName l = true) : l ≠ [] ∧ isWord l = false ∧ isNameAt true l = true := by
  unfold isName at h
  simp only [Bool.and_eq_true, Bool.not_eq_true'] at h
  exact ⟨by intro e; subst e; simp at h, h.1.2, h.2⟩
theorem isName_nc {l : Bs} (h : isName l = true) : ∀ x, x ∈ l → isNC x = true := isNameAt_all true l (isName_parts h).2.2
theorem isName_head {l : Bs} (h : isName l = true) : ∃ c m, l = c :: m ∧ isLetter c = true := by
  obtain ⟨h1, h2, h3⟩ := isName_parts h
  cases l with
  | nil => exact absurd rfl h1
  | cons c m =>
    refine ⟨c, m, rfl, ?_⟩
    rw [isNameAt, Bool.and_eq_true] at h3
    simpa using h3.1
/-- The numeral. -/
theorem dec_digits (u : Nat) : (∀ x, x ∈ Lib.decDigits u → isDigit x = true) ∧ Lib.decDigits u ≠ [] := by
  induction u using Nat.strongRecOn with
  | _ u ih =>
    have dig : ∀ i : Fin 10, isDigit (UInt8.ofNat (48 + i.val)) = true := by decide +kernel
    by_cases h : u < 10
    · rw [Lib.decDigits, dif_pos h]
      exact ⟨fun x hx => by rw [List.mem_singleton.1 hx]; exact dig ⟨u, h⟩, by simp⟩
    · rw [Lib.decDigits, dif_neg h]
      refine ⟨fun x hx => ?_, by simp⟩
      rcases List.mem_append.1 hx with hx | hx
      · exact (ih (u / 10) (by omega)).1 x hx
      · rw [List.mem_singleton.1 hx]; exact dig ⟨u % 10, by omega⟩
theorem dec_inj : ∀ (u v : Nat), Lib.decDigits u = Lib.decDigits v → u = v := by
  intro u
  induction u using Nat.strongRecOn with
  | _ u ih =>
    intro v h
    have inj : ∀ i j : Fin 10, UInt8.ofNat (48 + i.val) = UInt8.ofNat (48 + j.val) → i = j := by decide +kernel
    have ne := fun w => (dec_digits w).2
    rw [Lib.decDigits.eq_1 u, Lib.decDigits.eq_1 v] at h
    by_cases h1 : u < 10 <;> by_cases h2 : v < 10
    · rw [dif_pos h1, dif_pos h2] at h
      have := inj ⟨u, h1⟩ ⟨v, h2⟩ (List.singleton_inj.1 h)
      exact Fin.mk.inj_iff.1 this
    · rw [dif_pos h1, dif_neg h2] at h
      have := congrArg List.length h
      have n1 := List.length_pos_iff.2 (ne (v / 10))
      rw [List.length_append, List.length_singleton, List.length_singleton] at this; omega
    · rw [dif_neg h1, dif_pos h2] at h
      have := congrArg List.length h
      have n1 := List.length_pos_iff.2 (ne (u / 10))
      rw [List.length_append, List.length_singleton, List.length_singleton] at this; omega
    · rw [dif_neg h1, dif_neg h2] at h
      obtain ⟨ha, hb⟩ := List.append_inj' h rfl
      have e1 := ih (u / 10) (by omega) (v / 10) ha
      have e2 := Fin.mk.inj_iff.1 (inj ⟨u % 10, by omega⟩ ⟨v % 10, by omega⟩ (List.singleton_inj.1 hb))
      omega
theorem itoa_pos {n : Int} (h : 0 ≤ n) : Lib.itoa n = Lib.decDigits n.toNat := by unfold Lib.itoa; rw [if_neg (by omega)]
theorem itoa_inj {m n : Int} (hm : 0 ≤ m) (hn : 0 ≤ n) (h : Lib.itoa m = Lib.itoa n) : m = n := by
  rw [itoa_pos hm, itoa_pos hn] at h
  have := dec_inj _ _ h; omega

/-- Where an expression ends; where a part of one does. -/
def Hard (r : Bs) : Prop := ∀ c l, r = c :: l → c = 41 ∨ c = 93 ∨ c = 44 ∨ c = 59
def Stop (r : Bs) : Prop := ∀ c l, r = c :: l → c = 41 ∨ c = 93 ∨ c = 44 ∨ c = 59 ∨ c = 32
theorem Hard.stop {r : Bs} (h : Hard r) : Stop r := fun c l e => by rcases h c l e with h | h | h | h <;> simp [h]
theorem Stop.nc {r : Bs} (h : Stop r) : Free isNC r := fun c l e => by rcases h c l e with rfl | rfl | rfl | rfl | rfl <;> decide
theorem Stop.digit {r : Bs} (h : Stop r) : Free isDigit r := fun c l e => by rcases h c l e with rfl | rfl | rfl | rfl | rfl <;> decide
theorem hard_cons {c : UInt8} {l : Bs} (h : c = 41 ∨ c = 93 ∨ c = 44 ∨ c = 59) : Hard (c :: l) := fun d m e => by cases e; exact h
theorem hard_nil : Hard [] := fun d m e => by cases e

/-- What a byte begins: a part in parentheses, a number, a name, a sign. -/
def cls (c : UInt8) : Nat := if c = 40 then 1 else if isDigit c then 2 else if isLetter c then 3 else if c = 45 ∨ c = 33 ∨ c = 126 then 4 else 0
theorem cls_digit {c : UInt8} (h : isDigit c = true) : cls c = 2 := by
  unfold cls; rw [if_neg (by rintro rfl; revert h; decide), if_pos h]
theorem cls_letter {c : UInt8} (h : isLetter c = true) : cls c = 3 := by
  have hd : ¬ isDigit c = true := by
    intro h2
    unfold isLetter at h; unfold isDigit at h2
    simp only [Bool.or_eq_true, Bool.and_eq_true, decide_eq_true_eq, beq_iff_eq, UInt8.le_iff_toNat_le] at h h2
    rcases h with (rfl | h) | h
    · revert h2; decide
    · have := h.1; have := h2.2; simp at *; omega
    · have := h.1; have := h2.2; simp at *; omega
  unfold cls; rw [if_neg (by rintro rfl; revert h; decide), if_neg hd, if_pos h]

def unitText (u : Bool × Ex) : Bs := if u.1 then [40] ++ exText u.2 ++ [41] else exText u.2
def seqText : List (Int × Bool × Ex) → Bs
  | [] => []
  | x :: l => [32] ++ signOf x.1 ++ [32] ++ unitText x.2 ++ seqText l
theorem seqText_app : ∀ l m, seqText (l ++ m) = seqText l ++ seqText m
  | [], m => rfl
  | x :: l, m => by rw [List.cons_append, seqText, seqText, seqText_app l m]; simp
/-- An expression as the parts that its operators stand between. -/
inductive Fl : Int → Ex → (Bool × Ex) → List (Int × Bool × Ex) → Prop
  | paren (lev : Int) (e : Ex) (h : e.kind = 4) (hl : levelOf e.op < lev) : Fl lev e (true, e) []
  | unit (lev : Int) (e : Ex) (h : e.kind ≠ 4) : Fl lev e (false, e) []
  | two (lev o : Int) (x y : Ex) (u v : Bool × Ex) (l m : List (Int × Bool × Ex)) (h : lev ≤ levelOf o) (hx : Fl (levelOf o) x u l) (hy : Fl (levelOf o + 1) y v m) : Fl lev (.mk 4 o 0 [] [x, y]) u (l ++ (o, v) :: m)
theorem Fl.levels {lev : Int} {e : Ex} {u : Bool × Ex} {l : List (Int × Bool × Ex)} (h : Fl lev e u l) : ∀ p, p ∈ l → lev ≤ levelOf p.1 := by
  induction h with
  | paren => intro p hp; cases hp
  | unit => intro p hp; cases hp
  | two lev o x y u v l m h hx hy ih1 ih2 =>
    intro p hp
    rcases List.mem_append.1 hp with hp | hp
    · have := ih1 p hp; omega
    · rcases List.mem_cons.1 hp with rfl | hp
      · exact h
      · have := ih2 p hp; omega
theorem split_eq {L L' : Int} : ∀ (l l' : List (Int × Bool × Ex)) (o o' : Int) (v v' : Bool × Ex) (m m' : List (Int × Bool × Ex)), levelOf o = L → levelOf o' = L' → (∀ p, p ∈ l → L ≤ levelOf p.1) → (∀ p, p ∈ m → L + 1 ≤ levelOf p.1) → (∀ p, p ∈ l' → L' ≤ levelOf p.1) → (∀ p, p ∈ m' → L' + 1 ≤ levelOf p.1) →
    l ++ (o, v) :: m = l' ++ (o', v') :: m' → l = l' ∧ o = o' ∧ v = v' ∧ m = m'
  | [], [], o, o', v, v', m, m', _, _, _, _, _, _, h => by simp at h; exact ⟨rfl, h.1.1, h.1.2, h.2⟩
  | [], q :: l', o, o', v, v', m, m', ho, ho', _, hm, hl', _, h => by
    simp only [List.nil_append, List.cons_append, List.cons.injEq] at h
    obtain ⟨rfl, rfl⟩ := h
    have h1 := hl' (o, v) List.mem_cons_self
    have h2 := hm (o', v') (by simp)
    dsimp only at h1 h2; omega
  | p :: l, [], o, o', v, v', m, m', ho, ho', hl, _, _, hm', h => by
    simp only [List.nil_append, List.cons_append, List.cons.injEq] at h
    obtain ⟨rfl, rfl⟩ := h
    have h1 := hl (o', v') List.mem_cons_self
    have h2 := hm' (o, v) (by simp)
    dsimp only at h1 h2; omega
  | p :: l, q :: l', o, o', v, v', m, m', ho, ho', hl, hm, hl', hm', h => by
    simp only [List.cons_append, List.cons.injEq] at h
    obtain ⟨rfl, h⟩ := h
    have hp := split_eq l l' o o' v v' m m' ho ho' (fun p hp => hl p (List.mem_cons_of_mem _ hp)) hm (fun p hp => hl' p (List.mem_cons_of_mem _ hp)) hm' h
    clear h
    obtain ⟨rfl, h⟩ := hp
    exact ⟨rfl, h⟩
theorem Fl.unique {lev : Int} {e : Ex} {u : Bool × Ex} {l : List (Int × Bool × Ex)} (h : Fl lev e u l) : ∀ f, Fl lev f u l → e = f := by
  have gen : ∀ (lev' : Int) f u' l', Fl lev' f u' l' → lev' = lev → u' = u → l' = l → e = f := by
    induction h with
    | paren lev e h hl =>
      intro lev' f u' l' hf e1 e2 e3
      cases hf with
      | paren _ _ _ _ => exact (Prod.mk.inj e2).2.symm
      | unit _ _ _ => cases (Prod.mk.inj e2).1
      | two => simp at e3
    | unit lev e h =>
      intro lev' f u' l' hf e1 e2 e3
      cases hf with
      | paren _ _ _ _ => cases (Prod.mk.inj e2).1
      | unit _ _ _ => exact (Prod.mk.inj e2).2.symm
      | two => simp at e3
    | two lev o x y u v l m h hx hy ih1 ih2 =>
      intro lev' f u' l' hf e1 e2 e3
      cases hf with
      | paren => simp at e3
      | unit => simp at e3
      | two _ o' x' y' _ v' l1 m1 h' hx' hy' =>
        obtain ⟨rfl, rfl, rfl, rfl⟩ := split_eq l1 l o' o v' v m1 m rfl rfl hx'.levels hy'.levels hx.levels hy.levels e3
        rw [ih1 _ _ _ _ hx' rfl e2 rfl, ih2 _ _ _ _ hy' rfl rfl rfl]
  exact fun f hf => gen _ f _ _ hf rfl rfl rfl
theorem wrapPart_yes {e : Ex} {lev : Int} {t : Bs} (h : e.kind = 4) (h2 : levelOf e.op < lev) : wrapPart e lev t = [40] ++ t ++ [41] := if_pos ⟨h, h2⟩
theorem wrapPart_no {e : Ex} {lev : Int} {t : Bs} (h : ¬ (e.kind = 4 ∧ levelOf e.op < lev)) : wrapPart e lev t = t := if_neg h
theorem fl_text {e : Ex} (hw : wellOk e = true) (lev : Int) : ∃ u l, Fl lev e u l ∧ partText e lev = unitText u ++ seqText l := by
  by_cases hp : e.kind = 4 ∧ levelOf e.op < lev
  · exact ⟨_, _, .paren lev e hp.1 hp.2, by unfold partText; rw [wrapPart_yes hp.1 hp.2]; simp [unitText, seqText]⟩
  · unfold partText
    rw [wrapPart_no hp]
    have hc := canon hw
    cases hc with
    | two o x y h hx hy =>
      have hlev : lev ≤ levelOf o := by
        have : ¬ levelOf o < lev := fun h => hp ⟨rfl, h⟩
        omega
      obtain ⟨u, l, h1, t1⟩ := fl_text hx (levelOf o)
      obtain ⟨v, m, h2, t2⟩ := fl_text hy (levelOf o + 1)
      refine ⟨_, _, .two lev o x y u v l m hlev h1 h2, ?_⟩
      rw [exText_4 _ _ _ _ (by simp)]
      show partText x (levelOf o) ++ ([32] ++ (signOf o ++ [32])) ++ partText y (levelOf o + 1) = _
      rw [t1, t2, seqText_app, seqText]; simp
    | num => exact ⟨_, _, .unit lev _ (by show (1 : Int) ≠ 4; decide), by simp [unitText, seqText]⟩
    | var => exact ⟨_, _, .unit lev _ (by show (2 : Int) ≠ 4; decide), by simp [unitText, seqText]⟩
    | one => exact ⟨_, _, .unit lev _ (by show (3 : Int) ≠ 4; decide), by simp [unitText, seqText]⟩
    | call => exact ⟨_, _, .unit lev _ (by show (5 : Int) ≠ 4; decide), by simp [unitText, seqText]⟩
    | index => exact ⟨_, _, .unit lev _ (by show (6 : Int) ≠ 4; decide), by simp [unitText, seqText]⟩
    | read => exact ⟨_, _, .unit lev _ (by show (7 : Int) ≠ 4; decide), by simp [unitText, seqText]⟩
termination_by SizeOf.sizeOf e
decreasing_by all_goals (subst_vars; simp +arith)

/-- What a part is. -/
def UWell (u : Bool × Ex) : Prop := wellOk u.2 = true ∧ (u.1 = true ↔ u.2.kind = 4)
theorem Fl.parts {lev : Int} {e : Ex} {u : Bool × Ex} {l : List (Int × Bool × Ex)} (h : Fl lev e u l) (hw : wellOk e = true) : (UWell u ∧ SizeOf.sizeOf u.2 ≤ SizeOf.sizeOf e) ∧ ∀ p, p ∈ l → UWell p.2 ∧ SizeOf.sizeOf p.2.2 < SizeOf.sizeOf e ∧ 0 < levelOf p.1 := by
  induction h with
  | paren lev e h hl => exact ⟨⟨⟨hw, fun _ => h, fun _ => rfl⟩, Nat.le_refl _⟩, fun p hp => by cases hp⟩
  | unit lev e h => exact ⟨⟨⟨hw, fun e => (by cases e), fun e => absurd e h⟩, Nat.le_refl _⟩, fun p hp => by cases hp⟩
  | two lev o x y u v l m h hx hy ih1 ih2 =>
    have hc := canon hw
    cases hc with
    | two _ _ _ h0 wx wy =>
      obtain ⟨⟨a1, a2⟩, a3⟩ := ih1 wx
      obtain ⟨⟨b1, b2⟩, b3⟩ := ih2 wy
      have sx : SizeOf.sizeOf x < SizeOf.sizeOf (Ex.mk 4 o 0 [] [x, y]) := by simp +arith
      have sy : SizeOf.sizeOf y < SizeOf.sizeOf (Ex.mk 4 o 0 [] [x, y]) := by simp +arith
      refine ⟨⟨a1, by omega⟩, fun p hp => ?_⟩
      rcases List.mem_append.1 hp with hp | hp
      · have := a3 p hp; exact ⟨this.1, by omega, this.2.2⟩
      · rcases List.mem_cons.1 hp with rfl | hp
        · exact ⟨b1, by show SizeOf.sizeOf v.2 < _; omega, h0⟩
        · have := b3 p hp; exact ⟨this.1, by omega, this.2.2⟩
/-- At the top no parentheses: the parts are smaller, or the expression is a part. -/
theorem Fl.top {e : Ex} {u : Bool × Ex} {l : List (Int × Bool × Ex)} (h : Fl 0 e u l) (hw : wellOk e = true) : u = (false, e) ∨ SizeOf.sizeOf u.2 < SizeOf.sizeOf e := by
  cases h with
  | paren _ _ h hl =>
    have hc := canon hw
    cases hc with
    | two o _ _ h0 _ _ => have hl : levelOf o < 0 := hl; omega
    | _ => exact absurd h (by intro h; cases h)
  | unit => exact .inl rfl
  | two _ o x y _ v l m h hx hy =>
    have hc := canon hw
    cases hc with
    | two _ _ _ h0 wx wy =>
      have := (hx.parts wx).1.2
      right
      have sx : SizeOf.sizeOf x < SizeOf.sizeOf (Ex.mk 4 o 0 [] [x, y]) := by simp +arith
      omega
theorem partText0 {e : Ex} (hw : wellOk e = true) : partText e 0 = exText e := by
  unfold partText
  refine wrapPart_no (fun h => ?_)
  have hc := canon hw
  cases hc with
  | two o _ _ h0 _ _ => have : levelOf o < 0 := h.2; omega
  | _ => exact absurd h.1 (by intro h; cases h)

/-- A part can be told where something goes on behind it. -/
def UDec (u : Bool × Ex) : Prop := ∀ v r s, UWell v → Stop r → Stop s → unitText u ++ r = unitText v ++ s → u = v ∧ r = s
def EDec (e : Ex) : Prop := ∀ f r s, wellOk f = true → Hard r → Hard s → exText e ++ r = exText f ++ s → e = f ∧ r = s
theorem sign_ops : ∀ i j : Fin 20, 0 < levelOf i.val → 0 < levelOf j.val → signOf i.val = signOf j.val → i = j := by decide +kernel
theorem level_range {o : Int} (h : 0 < levelOf o) : 1 ≤ o ∧ o ≤ 16 := by
  unfold levelOf at h; repeat' split at h
  all_goals omega
theorem sign_inj {o p : Int} (ho : 0 < levelOf o) (hp : 0 < levelOf p) (h : signOf o = signOf p) : o = p := by
  have r1 := level_range ho; have r2 := level_range hp
  have e1 : ((o.toNat : Nat) : Int) = o := Int.toNat_of_nonneg (by omega)
  have e2 : ((p.toNat : Nat) : Int) = p := Int.toNat_of_nonneg (by omega)
  have := sign_ops ⟨o.toNat, by omega⟩ ⟨p.toNat, by omega⟩ (by show 0 < levelOf (o.toNat : Int); rw [e1]; exact ho) (by show 0 < levelOf (p.toNat : Int); rw [e2]; exact hp) (by show signOf (o.toNat : Int) = signOf (p.toNat : Int); rw [e1, e2]; exact h)
  have := Fin.mk.inj_iff.1 this
  omega
theorem sign_ne : ∀ i : Fin 20, ∀ x, x ∈ signOf i.val → (x != 32) = true := by decide +kernel
theorem sign_ne32 {o : Int} (ho : 0 < levelOf o) : ∀ x, x ∈ signOf o → (x != 32) = true := by
  have r1 := level_range ho
  have e1 : ((o.toNat : Nat) : Int) = o := Int.toNat_of_nonneg (by omega)
  have := sign_ne ⟨o.toNat, by omega⟩
  simp only [e1] at this; exact this
theorem seq_stop (l : List (Int × Bool × Ex)) {r : Bs} (h : Hard r) : Stop (seqText l ++ r) := by
  cases l with
  | nil => exact h.stop
  | cons x l => intro c m e; rw [seqText] at e; simp at e; right; right; right; right; exact e.1.symm
theorem seq_dec : ∀ (l m : List (Int × Bool × Ex)) (u v : Bool × Ex) (r s : Bs), UDec u → (∀ p, p ∈ l → UDec p.2 ∧ 0 < levelOf p.1) → UWell v → (∀ p, p ∈ m → UWell p.2 ∧ 0 < levelOf p.1) → Hard r → Hard s →
    unitText u ++ (seqText l ++ r) = unitText v ++ (seqText m ++ s) → u = v ∧ l = m ∧ r = s
  | l, m, u, v, r, s, hu, hl, hv, hm, hr, hs, h => by
    have hp := hu v _ _ hv (seq_stop l hr) (seq_stop m hs) h
    clear h
    obtain ⟨rfl, h⟩ := hp
    refine ⟨rfl, ?_⟩
    cases l with
    | nil =>
      cases m with
      | nil => exact ⟨rfl, h⟩
      | cons q m =>
        rw [seqText] at h; simp [seqText] at h
        rcases hr 32 _ h with h | h | h | h <;> exact absurd h (by decide)
    | cons p l =>
      cases m with
      | nil =>
        rw [seqText] at h; simp [seqText] at h
        rcases hs 32 _ h.symm with h | h | h | h <;> exact absurd h (by decide)
      | cons q m =>
        have hp := hl p List.mem_cons_self
        have hq := hm q List.mem_cons_self
        rw [seqText, seqText] at h
        simp only [List.append_assoc, List.cons_append, List.nil_append, List.cons.injEq, true_and] at h
        obtain ⟨h1, h2⟩ := span_eq (fun x => x != 32) _ _ _ _ (sign_ne32 hp.2) (sign_ne32 hq.2) (Free.cons (by decide)) (Free.cons (by decide)) h
        have ho := sign_inj hp.2 hq.2 h1
        simp only [List.cons.injEq, true_and] at h2
        obtain ⟨h3, h4, h5⟩ := seq_dec l m p.2 q.2 r s hp.1 (fun x hx => hl x (List.mem_cons_of_mem _ hx)) hq.1 (fun x hx => hm x (List.mem_cons_of_mem _ hx)) hr hs h2
        exact ⟨by rw [h4, Prod.ext ho h3], h5⟩
/-- An expression can be told if its parts can. -/
theorem ex_dec {e : Ex} (hw : wellOk e = true) (hs : ∀ u, UWell u → (u = (false, e) ∨ SizeOf.sizeOf u.2 < SizeOf.sizeOf e) → UDec u) : EDec e := by
  intro f r s hf hr hs' h
  obtain ⟨u, l, h1, t1⟩ := fl_text hw 0
  obtain ⟨v, m, h2, t2⟩ := fl_text hf 0
  rw [partText0 hw] at t1
  rw [partText0 hf] at t2
  rw [t1, t2, List.append_assoc, List.append_assoc] at h
  have p1 := h1.parts hw
  have p2 := h2.parts hf
  have hp := seq_dec l m u v r s (hs u p1.1.1 (h1.top hw)) (fun p hp => ⟨hs p.2 (p1.2 p hp).1 (.inr (p1.2 p hp).2.1), (p1.2 p hp).2.2⟩) p2.1.1 (fun p hp => ⟨(p2.2 p hp).1, (p2.2 p hp).2.2⟩) hr hs' h
  clear h
  obtain ⟨rfl, rfl, h⟩ := hp
  exact ⟨h1.unique f h2, h⟩
end Go.Proofs.YtgmaeflfiooigaaGreatDoor

namespace Go.Proofs.YtgmaeflfiooigaaGreatDoor

/-- What a part begins with. -/
def hcls (u : Bool × Ex) : Nat := if u.1 then 1 else if u.2.kind = 1 then 2 else if u.2.kind = 3 then 4 else 3
theorem unit_head {u : Bool × Ex} (h : UWell u) : ∃ c l, unitText u = c :: l ∧ cls c = hcls u := by
  obtain ⟨b, e⟩ := u
  obtain ⟨hw, hb⟩ := h
  cases b with
  | true => exact ⟨40, exText e ++ [41], rfl, rfl⟩
  | false =>
    have hc := canon hw
    have nm : ∀ {nm : Bs} (t : Bs), isName nm = true → ∃ c l, nm ++ t = c :: l ∧ cls c = 3 := fun {nm} t h => by
      obtain ⟨c, m, rfl, hl⟩ := isName_head h
      exact ⟨c, m ++ t, rfl, cls_letter hl⟩
    cases hc with
    | num n hn =>
      obtain ⟨h1, h2⟩ := dec_digits n.toNat
      show ∃ c l, exText _ = c :: l ∧ _
      rw [exText_1, itoa_pos hn]
      cases hd : Lib.decDigits n.toNat with
      | nil => exact absurd hd h2
      | cons c l => exact ⟨c, l, rfl, cls_digit (h1 c (by rw [hd]; exact List.mem_cons_self))⟩
    | var x hx =>
      show ∃ c l, exText _ = c :: l ∧ _
      rw [exText_2]
      have := nm [] hx; rw [List.append_nil] at this; exact this
    | one o x ho hx =>
      show ∃ c l, exText _ = c :: l ∧ _
      rw [exText_3 _ _ _ _ (by simp)]
      rcases ho with rfl | rfl | rfl
      · exact ⟨45, _, rfl, rfl⟩
      · exact ⟨33, _, rfl, rfl⟩
      · exact ⟨126, _, rfl, rfl⟩
    | two => exact absurd (hb.2 rfl) (by simp)
    | call x l hx hn hl =>
      show ∃ c l, exText _ = c :: l ∧ _
      rw [exText_5, List.append_assoc, List.append_assoc]; exact nm _ hx
    | index x y hx hy =>
      show ∃ c l, exText _ = c :: l ∧ _
      rw [exText_6 _ _ _ _ (by simp), List.append_assoc, List.append_assoc]; exact nm _ hx
    | read =>
      show ∃ c l, exText _ = c :: l ∧ _
      rw [exText_7]; exact ⟨114, _, rfl, by decide⟩
theorem ex_head {e : Ex} (h : wellOk e = true) : ∃ c l, exText e = c :: l ∧ cls c ≠ 0 := by
  obtain ⟨u, l, h1, t1⟩ := fl_text h 0
  rw [partText0 h] at t1
  obtain ⟨c, m, hc, hcl⟩ := unit_head (h1.parts h).1.1
  refine ⟨c, m ++ seqText l, by rw [t1, hc]; rfl, ?_⟩
  rw [hcl]; unfold hcls; repeat' split
  all_goals decide
theorem cls_same {u v : Bool × Ex} {r s : Bs} (hu : UWell u) (hv : UWell v) (h : unitText u ++ r = unitText v ++ s) : hcls u = hcls v := by
  obtain ⟨c, l, h1, h2⟩ := unit_head hu
  obtain ⟨d, m, h3, h4⟩ := unit_head hv
  rw [h1, h3] at h
  simp only [List.cons_append, List.cons.injEq] at h
  rw [← h2, ← h4, h.1]
theorem sep_hard (l : List Ex) (r : Bs) : Hard ((l.map exText).flatMap (fun y => [44, 32] ++ y) ++ 41 :: r) := by
  cases l with
  | nil => exact hard_cons (.inl rfl)
  | cons x l => exact hard_cons (.inr (.inr (.inl rfl)))
theorem more_dec : ∀ (l m : List Ex) (r s : Bs), (∀ x, x ∈ l → EDec x) → (∀ x, x ∈ m → wellOk x = true) →
    (l.map exText).flatMap (fun y => [44, 32] ++ y) ++ 41 :: r = (m.map exText).flatMap (fun y => [44, 32] ++ y) ++ 41 :: s → l = m ∧ r = s
  | [], [], r, s, _, _, h => by simp at h; exact ⟨rfl, h⟩
  | [], y :: m, r, s, _, _, h => by simp at h
  | x :: l, [], r, s, _, _, h => by simp at h
  | x :: l, y :: m, r, s, hl, hm, h => by
    simp only [List.map_cons, List.flatMap_cons, List.cons_append, List.nil_append, List.append_assoc, List.cons.injEq, true_and] at h
    have hp := hl x List.mem_cons_self y _ _ (hm y List.mem_cons_self) (sep_hard l r) (sep_hard m s) h
    clear h
    obtain ⟨rfl, h⟩ := hp
    have hp := more_dec l m r s (fun z hz => hl z (List.mem_cons_of_mem _ hz)) (fun z hz => hm z (List.mem_cons_of_mem _ hz)) h
    clear h
    obtain ⟨rfl, h⟩ := hp
    exact ⟨rfl, h⟩
theorem args_dec (l m : List Ex) (r s : Bs) (hl : ∀ x, x ∈ l → EDec x ∧ wellOk x = true) (hm : ∀ x, x ∈ m → wellOk x = true) (h : sepText (l.map exText) ++ 41 :: r = sepText (m.map exText) ++ 41 :: s) : l = m ∧ r = s := by
  cases l with
  | nil =>
    cases m with
    | nil => simp [sepText] at h; exact ⟨rfl, h⟩
    | cons y m =>
      obtain ⟨c, t, h1, h2⟩ := ex_head (hm y List.mem_cons_self)
      simp [sepText, h1] at h
      rw [← h.1] at h2; exact absurd rfl h2
  | cons x l =>
    cases m with
    | nil =>
      obtain ⟨c, t, h1, h2⟩ := ex_head (hl x List.mem_cons_self).2
      simp [sepText, h1] at h
      rw [h.1] at h2; exact absurd rfl h2
    | cons y m =>
      simp only [List.map_cons, sepText, List.append_assoc] at h
      have hp := (hl x List.mem_cons_self).1 y _ _ (hm y List.mem_cons_self) (sep_hard l r) (sep_hard m s) h
      clear h
      obtain ⟨rfl, h⟩ := hp
      have hp := more_dec l m r s (fun z hz => (hl z (List.mem_cons_of_mem _ hz)).1) (fun z hz => hm z (List.mem_cons_of_mem _ hz)) h
      clear h
      obtain ⟨rfl, h⟩ := hp
      exact ⟨rfl, h⟩
/-- A name, or read, and what stands behind it. -/
def nmOf (e : Ex) : Bs := if e.kind = 7 then [114, 101, 97, 100] else e.name
def tlOf (e : Ex) : Bs := if e.kind = 2 then [] else if e.kind = 5 then 40 :: (sepText (e.args.map exText) ++ [41]) else if e.kind = 6 then 91 :: (exText (exAt e.args 0) ++ [93]) else [40, 41]
theorem letter_parts {e : Ex} (hw : wellOk e = true) (h : hcls (false, e) = 3) (h4 : e.kind ≠ 4) : exText e = nmOf e ++ tlOf e ∧ (∀ x, x ∈ nmOf e → isNC x = true) ∧ ∀ r, Stop r → Free isNC (tlOf e ++ r) := by
  have hc := canon hw
  cases hc with
  | num n hn => exact absurd h (by simp [hcls, Ex.kind])
  | var x hx => exact ⟨by rw [exText_2]; simp [nmOf, tlOf, Ex.kind, Ex.name], isName_nc hx, fun r hr => hr.nc⟩
  | one o x ho hx => exact absurd h (by simp [hcls, Ex.kind])
  | two => exact absurd rfl h4
  | call x l hx hn hl => exact ⟨by rw [exText_5]; simp [nmOf, tlOf, Ex.kind, Ex.name, Ex.args], isName_nc hx, fun r hr => Free.cons (by decide)⟩
  | index x y hx hy => exact ⟨by rw [exText_6 _ _ _ _ (by simp)]; simp [nmOf, tlOf, Ex.kind, Ex.name, Ex.args], isName_nc hx, fun r hr => Free.cons (by decide)⟩
  | read => exact ⟨by rw [exText_7]; rfl, by decide, fun r hr => Free.cons (by decide)⟩
theorem stop_no {r : Bs} (h : Stop r) {c : UInt8} {l : Bs} (e : r = c :: l) (hc : ¬ (c = 41 ∨ c = 93 ∨ c = 44 ∨ c = 59 ∨ c = 32)) : False := hc (h c l e)
theorem read_word : isName [114, 101, 97, 100] = false := by decide
theorem lev9_ops : ∀ i : Fin 20, levelOf i.val < 9 := by decide +kernel
theorem lev9 (o : Int) : levelOf o < 9 := by
  by_cases h : 0 < levelOf o
  · have r1 := level_range h
    have e1 : ((o.toNat : Nat) : Int) = o := Int.toNat_of_nonneg (by omega)
    have := lev9_ops ⟨o.toNat, by omega⟩
    simp only [e1] at this; exact this
  · omega
theorem sign3 {o p : Int} (ho : o = 17 ∨ o = 18 ∨ o = 19) (hp : p = 17 ∨ p = 18 ∨ p = 19) {A B r s : Bs} (h : signOf o ++ A ++ r = signOf p ++ B ++ s) : o = p ∧ A ++ r = B ++ s := by
  have s17 : signOf 17 = [45] := rfl
  have s18 : signOf 18 = [33] := rfl
  have s19 : signOf 19 = [126] := rfl
  rcases ho with rfl | rfl | rfl <;> rcases hp with rfl | rfl | rfl
  all_goals
    simp only [s17, s18, s19, List.cons_append, List.nil_append, List.cons.injEq] at h
    first | exact ⟨rfl, h.2⟩ | exact absurd h.1 (by decide)
theorem unit_dec {u : Bool × Ex} (hu : UWell u) (ih : ∀ x, SizeOf.sizeOf x < SizeOf.sizeOf u.2 → wellOk x = true → EDec x) (iu : ∀ v, UWell v → SizeOf.sizeOf v.2 < SizeOf.sizeOf u.2 → UDec v) (ip : u.1 = true → EDec u.2) : UDec u := by
  intro v r s hv hr hs h
  have hcl := cls_same hu hv h
  obtain ⟨b, e⟩ := u
  obtain ⟨b', f⟩ := v
  obtain ⟨hw, hb⟩ := hu
  obtain ⟨hw', hb'⟩ := hv
  dsimp only at hw hb hw' hb' ih ip iu
  have no1 : ∀ x : Ex, hcls (false, x) ≠ 1 := fun x => by unfold hcls; simp; repeat' split
                                                          all_goals simp
  cases b with
  | true =>
    cases b' with
    | false => exact absurd hcl.symm (no1 f)
    | true =>
      replace h : [40] ++ exText e ++ [41] ++ r = [40] ++ exText f ++ [41] ++ s := h
      simp only [List.append_assoc, List.cons_append, List.nil_append, List.cons.injEq, true_and] at h
      have hp := ip rfl f _ _ hw' (hard_cons (.inl rfl)) (hard_cons (.inl rfl)) h
      clear h
      obtain ⟨rfl, h⟩ := hp
      exact ⟨rfl, by simpa using h⟩
  | false =>
    cases b' with
    | true => exact absurd hcl (no1 e)
    | false =>
      replace h : exText e ++ r = exText f ++ s := h
      have n4 : e.kind ≠ 4 := fun h => by have := hb.2 h; cases this
      have n4' : f.kind ≠ 4 := fun h => by have := hb'.2 h; cases this
      by_cases h3 : hcls (false, e) = 3
      · have h3' : hcls (false, f) = 3 := hcl.symm.trans h3
        obtain ⟨t1, c1, f1⟩ := letter_parts hw h3 n4
        obtain ⟨t2, c2, f2⟩ := letter_parts hw' h3' n4'
        rw [t1, t2, List.append_assoc, List.append_assoc] at h
        have hp := span_eq isNC _ _ _ _ c1 c2 (f1 r hr) (f2 s hs) h
        clear h
        obtain ⟨hn, h⟩ := hp
        have hc := canon hw
        have hc' := canon hw'
        cases hc with
        | num n hn => exact absurd h3 (by simp [hcls, Ex.kind])
        | one => exact absurd h3 (by simp [hcls, Ex.kind])
        | two => exact absurd rfl n4
        | var x hx =>
          cases hc' with
          | num n hn => exact absurd h3' (by simp [hcls, Ex.kind])
          | one => exact absurd h3' (by simp [hcls, Ex.kind])
          | two => exact absurd rfl n4'
          | var y hy =>
            have hn : x = y := hn
            subst hn; exact ⟨rfl, h⟩
          | call y l hy _ _ => exact (stop_no hr h (by decide)).elim
          | index y z hy _ => exact (stop_no hr h (by decide)).elim
          | read => exact (stop_no hr h (by decide)).elim
        | call x l hx hlen hl =>
          cases hc' with
          | num n hn => exact absurd h3' (by simp [hcls, Ex.kind])
          | one => exact absurd h3' (by simp [hcls, Ex.kind])
          | two => exact absurd rfl n4'
          | var y hy => exact (stop_no hs h.symm (by decide)).elim
          | call y m hy hm hml =>
            have hn : x = y := hn
            subst hn
            replace h : 40 :: (sepText (l.map exText) ++ [41]) ++ r = 40 :: (sepText (m.map exText) ++ [41]) ++ s := h
            simp only [List.append_assoc, List.cons_append, List.nil_append, List.cons.injEq, true_and] at h
            have hp := args_dec l m r s (fun z hz => ⟨ih z (by have := List.sizeOf_lt_of_mem hz; simp +arith; omega) (hl z hz), hl z hz⟩) hml h
            clear h
            obtain ⟨rfl, h⟩ := hp
            exact ⟨rfl, h⟩
          | index y z hy _ =>
            replace h : 40 :: (sepText (l.map exText) ++ [41]) ++ r = 91 :: _ := h
            simp at h
          | read =>
            have hn : x = [114, 101, 97, 100] := hn
            subst hn; rw [read_word] at hx; cases hx
        | index x y hx hy =>
          cases hc' with
          | num n hn => exact absurd h3' (by simp [hcls, Ex.kind])
          | one => exact absurd h3' (by simp [hcls, Ex.kind])
          | two => exact absurd rfl n4'
          | var z hz => exact (stop_no hs h.symm (by decide)).elim
          | call z m hz hm hml =>
            replace h : 91 :: (exText y ++ [93]) ++ r = 40 :: _ := h
            simp at h
          | index z y' hz hy' =>
            have hn : x = z := hn
            subst hn
            replace h : 91 :: (exText y ++ [93]) ++ r = 91 :: (exText y' ++ [93]) ++ s := h
            simp only [List.append_assoc, List.cons_append, List.nil_append, List.cons.injEq, true_and] at h
            have hp := ih y (by simp +arith) hy y' _ _ hy' (hard_cons (.inr (.inl rfl))) (hard_cons (.inr (.inl rfl))) h
            clear h
            obtain ⟨rfl, h⟩ := hp
            exact ⟨rfl, by simpa using h⟩
          | read =>
            replace h : 91 :: (exText y ++ [93]) ++ r = 40 :: _ := h
            simp at h
        | read =>
          cases hc' with
          | num n hn => exact absurd h3' (by simp [hcls, Ex.kind])
          | one => exact absurd h3' (by simp [hcls, Ex.kind])
          | two => exact absurd rfl n4'
          | var z hz => exact (stop_no hs h.symm (by decide)).elim
          | call z m hz hm hml =>
            have hn : [114, 101, 97, 100] = z := hn
            subst hn; rw [read_word] at hz; cases hz
          | index z y' hz hy' =>
            replace h : 40 :: _ = 91 :: (exText y' ++ [93]) ++ s := h
            simp at h
          | read =>
            replace h : 40 :: 41 :: r = 40 :: 41 :: s := h
            exact ⟨rfl, by simpa using h⟩
      · have h3' : hcls (false, f) ≠ 3 := fun e => h3 (hcl.trans e)
        have hc := canon hw
        have hc' := canon hw'
        cases hc with
        | var x hx => exact absurd rfl h3
        | two => exact absurd rfl n4
        | call => exact absurd rfl h3
        | index => exact absurd rfl h3
        | read => exact absurd rfl h3
        | num n hn =>
          cases hc' with
          | var x hx => exact absurd rfl h3'
          | two => exact absurd rfl n4'
          | call => exact absurd rfl h3'
          | index => exact absurd rfl h3'
          | read => exact absurd rfl h3'
          | one => exact absurd hcl (by simp [hcls, Ex.kind])
          | num m hm =>
            rw [exText_1, exText_1] at h
            have hp := span_eq isDigit _ _ _ _ (by rw [itoa_pos hn]; exact (dec_digits _).1) (by rw [itoa_pos hm]; exact (dec_digits _).1) hr.digit hs.digit h
            clear h
            obtain ⟨h1, h⟩ := hp
            rw [itoa_inj hn hm h1]; exact ⟨rfl, h⟩
        | one o x ho hx =>
          cases hc' with
          | var x hx => exact absurd rfl h3'
          | two => exact absurd rfl n4'
          | call => exact absurd rfl h3'
          | index => exact absurd rfl h3'
          | read => exact absurd rfl h3'
          | num => exact absurd hcl (by simp [hcls, Ex.kind])
          | one p y hp hy =>
            rw [exText_3 _ _ _ _ (by simp), exText_3 _ _ _ _ (by simp)] at h
            replace h : signOf o ++ partText x 9 ++ r = signOf p ++ partText y 9 ++ s := h
            have hop := sign3 ho hp h
            clear h
            obtain ⟨rfl, h⟩ := hop
            have part : ∀ z : Ex, wellOk z = true → ∃ u, UWell u ∧ u.2 = z ∧ partText z 9 = unitText u := fun z hz => by
              by_cases hk : z.kind = 4
              · exact ⟨(true, z), ⟨hz, fun _ => hk, fun _ => rfl⟩, rfl, wrapPart_yes hk (lev9 z.op)⟩
              · exact ⟨(false, z), ⟨hz, fun h => (by cases h), fun h => absurd h hk⟩, rfl, wrapPart_no (fun h => hk h.1)⟩
            obtain ⟨u, u1, u2, u3⟩ := part x hx
            obtain ⟨v, v1, v2, v3⟩ := part y hy
            rw [u3, v3] at h
            have sx : SizeOf.sizeOf u.2 < SizeOf.sizeOf (Ex.mk 3 o 0 [] [x]) := by rw [u2]; simp +arith
            have hp := iu u u1 sx v r s v1 hr hs h
            clear h
            obtain ⟨e1, h⟩ := hp
            rw [← u2, ← v2, e1]; exact ⟨rfl, h⟩
theorem ex_all : ∀ (n : Nat), (∀ e : Ex, SizeOf.sizeOf e ≤ n → wellOk e = true → EDec e) ∧ ∀ u : Bool × Ex, UWell u → SizeOf.sizeOf u.2 ≤ n → UDec u
  | 0 => ⟨fun e hn _ => by cases e; simp at hn, fun u _ hn => by obtain ⟨b, e⟩ := u; cases e; simp at hn⟩
  | n + 1 => by
    obtain ⟨i1, i2⟩ := ex_all n
    have he : ∀ e : Ex, SizeOf.sizeOf e ≤ n + 1 → wellOk e = true → EDec e := fun e hn hw =>
      ex_dec hw (fun u hu hsz => by
        rcases hsz with rfl | hsz
        · exact unit_dec hu (fun x hx wx => i1 x (by dsimp only at hx; omega) wx) (fun v hv hz => i2 v hv (by dsimp only at hz; omega)) (fun h => by cases h)
        · exact i2 u hu (by omega))
    exact ⟨he, fun u hu hn => unit_dec hu (fun x hx wx => i1 x (by omega) wx) (fun v hv hz => i2 v hv (by omega)) (fun _ => he u.2 hn hu.1)⟩
theorem ex_any {e : Ex} (hw : wellOk e = true) : EDec e := (ex_all _).1 e (Nat.le_refl _) hw
/-- Unlike right expressions have unlike texts. -/
theorem exText_inj {e f : Ex} (he : wellOk e = true) (hf : wellOk f = true) (h : exText e = exText f) : e = f :=
  (ex_any he f [] [] hf hard_nil hard_nil (by rw [List.append_nil, List.append_nil]; exact h)).1
end Go.Proofs.YtgmaeflfiooigaaGreatDoor

namespace Go.Proofs.YtgmaeflfiooigaaGreatDoor
set_option maxHeartbeats 4000000

def SOk (x : St) : Prop := ∃ m, stOk m x = true
/-- The forms of statements that may be. -/
inductive CanonS : St → Prop
  | set (nm : Bs) (x : Ex) (h : isName nm = true) (hx : wellOk x = true) : CanonS (.mk 1 nm [x] [] [])
  | store (nm : Bs) (x y : Ex) (h : isName nm = true) (hx : wellOk x = true) (hy : wellOk y = true) : CanonS (.mk 2 nm [x, y] [] [])
  | iff (x : Ex) (t e : List St) (hx : wellOk x = true) (ht : ∀ y, y ∈ t → SOk y) (he : ∀ y, y ∈ e → SOk y) : CanonS (.mk 3 [] [x] t e)
  | loop (x : Ex) (t : List St) (hx : wellOk x = true) (ht : ∀ y, y ∈ t → SOk y) : CanonS (.mk 4 [] [x] t [])
  | brk : CanonS (.mk 5 [] [] [] [])
  | cont : CanonS (.mk 6 [] [] [] [])
  | ret (x : Ex) (hx : wellOk x = true) : CanonS (.mk 7 [] [x] [] [])
  | prt (x : Ex) (hx : wellOk x = true) : CanonS (.mk 8 [] [x] [] [])
  | trp (x : Ex) (hx : wellOk x = true) : CanonS (.mk 9 [] [x] [] [])
  | call (nm : Bs) (l : List Ex) (h : isName nm = true) (hn : l.length ≤ 6) (hl : ∀ x, x ∈ l → wellOk x = true) : CanonS (.mk 10 [] [.mk 5 0 0 nm l] [] [])
theorem right_well {e : Ex} (h : rightEx e = true) : wellOk e = true := by unfold rightEx at h; exact ((Bool.and_eq_true _ _).mp h).2
theorem canonS {x : St} (h : SOk x) : CanonS x := by
  obtain ⟨k, nm, l, t, e⟩ := x
  obtain ⟨m, h⟩ := h
  cases m with
  | zero => cases h
  | succ m =>
    simp only [stOk, stBad1, stBad2, St.kind, St.args, St.thn, St.els, St.name, Bool.and_eq_true, Bool.not_eq_true', Bool.or_eq_false_iff, Bool.not_eq_false', List.all_eq_true] at h
    obtain ⟨⟨⟨⟨⟨⟨⟨⟨h1, _⟩, h3⟩, h4⟩, h5⟩, ⟨⟨h6, h7⟩, h8⟩⟩, ha⟩, ht⟩, he⟩ := h
    have ha : ∀ x, x ∈ l → wellOk x = true := fun x hx => right_well (ha x hx)
    have ht : ∀ x, x ∈ t → SOk x := fun x hx => ⟨m, ht x hx⟩
    have he : ∀ x, x ∈ e → SOk x := fun x hx => ⟨m, he x hx⟩
    have hk := of_decide_eq_true h1
    have hk : k = 1 ∨ k = 2 ∨ k = 3 ∨ k = 4 ∨ k = 5 ∨ k = 6 ∨ k = 7 ∨ k = 8 ∨ k = 9 ∨ k = 10 := by omega
    rcases hk with rfl | rfl | rfl | rfl | rfl | rfl | rfl | rfl | rfl | rfl
    all_goals
      simp [fArgs, fThen, fMore, fNamed] at h3 h4 h5 h6 h7
    · obtain ⟨x, rfl⟩ := List.length_eq_one_iff.1 (show l.length = 1 by omega)
      subst h4; subst h5
      exact .set nm x h6 (ha x List.mem_cons_self)
    · obtain ⟨x, y, rfl⟩ := len2 (show l.length = 2 by omega)
      subst h4; subst h5
      exact .store nm x y h6 (ha x List.mem_cons_self) (ha y (by simp))
    · obtain ⟨x, rfl⟩ := List.length_eq_one_iff.1 (show l.length = 1 by omega)
      subst h7
      exact .iff x t e (ha x List.mem_cons_self) ht he
    · obtain ⟨x, rfl⟩ := List.length_eq_one_iff.1 (show l.length = 1 by omega)
      subst h7; subst h5
      exact .loop x t (ha x List.mem_cons_self) ht
    · obtain rfl : l = [] := List.length_eq_zero_iff.1 (by simpa using h3)
      subst h7; subst h4; subst h5
      exact .brk
    · obtain rfl : l = [] := List.length_eq_zero_iff.1 (by simpa using h3)
      subst h7; subst h4; subst h5
      exact .cont
    · obtain ⟨x, rfl⟩ := List.length_eq_one_iff.1 (show l.length = 1 by omega)
      subst h7; subst h4; subst h5
      exact .ret x (ha x List.mem_cons_self)
    · obtain ⟨x, rfl⟩ := List.length_eq_one_iff.1 (show l.length = 1 by omega)
      subst h7; subst h4; subst h5
      exact .prt x (ha x List.mem_cons_self)
    · obtain ⟨x, rfl⟩ := List.length_eq_one_iff.1 (show l.length = 1 by omega)
      subst h7; subst h4; subst h5
      exact .trp x (ha x List.mem_cons_self)
    · obtain ⟨x, rfl⟩ := List.length_eq_one_iff.1 (show l.length = 1 by omega)
      subst h7; subst h4; subst h5
      have hx := ha x List.mem_cons_self
      have h8 : x.kind = 5 := by simpa using h8
      have hc := canon hx
      cases hc with
      | call nm l h hn hl => exact .call nm l h hn hl
      | _ => exact absurd h8 (by simp [Ex.kind])
/-- A statement's word, and what stands behind it. -/
def wdS (x : St) : Bs := if x.kind = 3 then [105, 102] else if x.kind = 4 then [119, 104, 105, 108, 101] else if x.kind = 5 then [98, 114, 101, 97, 107] else if x.kind = 6 then [99, 111, 110, 116, 105, 110, 117, 101] else if x.kind = 7 then [114, 101, 116, 117, 114, 110]
  else if x.kind = 8 then [112, 114, 105, 110, 116] else if x.kind = 9 then [116, 114, 97, 112] else if x.kind = 10 then (exAt x.args 0).name else x.name
def tlS (t : Nat) (x : St) : Bs :=
  if x.kind = 1 then [32, 61, 32] ++ exText (exAt x.args 0) ++ [59, 10]
  else if x.kind = 2 then [91] ++ exText (exAt x.args 0) ++ [93, 32, 61, 32] ++ exText (exAt x.args 1) ++ [59, 10]
  else if x.kind = 3 then [32, 40] ++ exText (exAt x.args 0) ++ [41, 32, 123, 10] ++ (stsText (t + 1) x.thn ++ ((if x.els.isEmpty then [] else ln t [[125, 32, 101, 108, 115, 101, 32, 123]] ++ stsText (t + 1) x.els) ++ ln t [[125]]))
  else if x.kind = 4 then [32, 40] ++ exText (exAt x.args 0) ++ [41, 32, 123, 10] ++ (stsText (t + 1) x.thn ++ ln t [[125]])
  else if x.kind = 5 ∨ x.kind = 6 then [59, 10]
  else if x.kind = 7 then [32] ++ exText (exAt x.args 0) ++ [59, 10]
  else if x.kind = 8 ∨ x.kind = 9 then [40] ++ exText (exAt x.args 0) ++ [41, 59, 10]
  else [40] ++ sepText ((exAt x.args 0).args.map exText) ++ [41, 59, 10]
theorem st_parts {x : St} (hx : SOk x) (t : Nat) : stText t x = tabsOf t ++ (wdS x ++ tlS t x) ∧ (∀ c, c ∈ wdS x → isNC c = true) ∧ (∀ r, Free isNC (tlS t x ++ r)) ∧ ∃ c l, wdS x = c :: l ∧ isLetter c = true := by
  have hc := canonS hx
  cases hc with
  | set nm x h hx =>
    refine ⟨?_, isName_nc h, fun r => Free.cons (by decide), isName_head h⟩
    rw [stText_eq, stShape_1]; simp [ln, wdS, tlS, St.kind, St.args, St.name]
  | store nm x y h hx hy =>
    refine ⟨?_, isName_nc h, fun r => Free.cons (by decide), isName_head h⟩
    rw [stText_eq, stShape_2]; simp [ln, wdS, tlS, St.kind, St.args, St.name]
  | iff x a b hx ha hb =>
    refine ⟨?_, by simp only [wdS, St.kind, Int.reduceEq, if_true, if_false, reduceIte]; decide, fun r => Free.cons (by decide), 105, [102], rfl, by decide⟩
    rw [stText_eq, stShape_3]; simp [ln, wdS, tlS, St.kind, St.args, St.name, St.thn, St.els]
  | loop x a hx ha =>
    refine ⟨?_, by simp only [wdS, St.kind, Int.reduceEq, if_true, if_false, reduceIte]; decide, fun r => Free.cons (by decide), 119, _, rfl, by decide⟩
    rw [stText_eq, stShape_4]; simp [ln, wdS, tlS, St.kind, St.args, St.name, St.thn, St.els]
  | brk =>
    refine ⟨?_, by simp only [wdS, St.kind, Int.reduceEq, if_true, if_false, reduceIte]; decide, fun r => Free.cons (by decide), 98, _, rfl, by decide⟩
    rw [stText_eq, stShape_5]; simp [ln, wdS, tlS, St.kind, St.args, St.name]
  | cont =>
    refine ⟨?_, by simp only [wdS, St.kind, Int.reduceEq, if_true, if_false, reduceIte]; decide, fun r => Free.cons (by decide), 99, _, rfl, by decide⟩
    rw [stText_eq, stShape_6]; simp [ln, wdS, tlS, St.kind, St.args, St.name]
  | ret x hx =>
    refine ⟨?_, by simp only [wdS, St.kind, Int.reduceEq, if_true, if_false, reduceIte]; decide, fun r => Free.cons (by decide), 114, _, rfl, by decide⟩
    rw [stText_eq, stShape_7]; simp [ln, wdS, tlS, St.kind, St.args, St.name]
  | prt x hx =>
    refine ⟨?_, by simp only [wdS, St.kind, Int.reduceEq, if_true, if_false, reduceIte]; decide, fun r => Free.cons (by decide), 112, _, rfl, by decide⟩
    rw [stText_eq, stShape_8]; simp [ln, wdS, tlS, St.kind, St.args, St.name]
  | trp x hx =>
    refine ⟨?_, by simp only [wdS, St.kind, Int.reduceEq, if_true, if_false, reduceIte]; decide, fun r => Free.cons (by decide), 116, _, rfl, by decide⟩
    rw [stText_eq, stShape_9]; simp [ln, wdS, tlS, St.kind, St.args, St.name]
  | call nm l h hn hl =>
    refine ⟨?_, isName_nc h, fun r => Free.cons (by decide), isName_head h⟩
    rw [stText_eq, stShape_10]
    show ln t [exText (.mk 5 0 0 nm l), [59]] = _
    rw [exText_5]; simp [ln, wdS, tlS, St.kind, St.args, exAt, Ex.name, Ex.args]
def SDec (x : St) : Prop := ∀ t y r s, SOk y → stText t x ++ r = stText t y ++ s → x = y ∧ r = s
def BEnd (t : Nat) (r : Bs) : Prop := ∃ q, r = tabsOf t ++ 125 :: q
theorem tabs_succ (t : Nat) : tabsOf (t + 1) = tabsOf t ++ [9] := List.replicate_succ'
theorem letter_not (c : UInt8) (h : isLetter c = true) : c ≠ 9 ∧ c ≠ 125 := ⟨by rintro rfl; revert h; decide, by rintro rfl; revert h; decide⟩
theorem sts_dec (t : Nat) : ∀ (l m : List St) (r s : Bs), (∀ x, x ∈ l → SDec x ∧ SOk x) → (∀ x, x ∈ m → SOk x) → BEnd t r → BEnd t s → stsText (t + 1) l ++ r = stsText (t + 1) m ++ s → l = m ∧ r = s
  | [], [], r, s, _, _, _, _, h => ⟨rfl, h⟩
  | [], y :: m, r, s, _, hm, hr, _, h => by
    obtain ⟨q, rfl⟩ := hr
    have hp := (st_parts (hm y List.mem_cons_self) (t + 1)).1
    rw [stsText, stsText, hp, tabs_succ] at h
    simp only [List.nil_append, List.append_assoc] at h
    have := List.append_cancel_left h
    simp at this
  | x :: l, [], r, s, hl, _, _, hs, h => by
    obtain ⟨q, rfl⟩ := hs
    have hp := (st_parts (hl x List.mem_cons_self).2 (t + 1)).1
    rw [stsText, stsText, hp, tabs_succ] at h
    simp only [List.nil_append, List.append_assoc] at h
    have := List.append_cancel_left h
    simp at this
  | x :: l, y :: m, r, s, hl, hm, hr, hs, h => by
    rw [stsText, stsText, List.append_assoc, List.append_assoc] at h
    have hp := (hl x List.mem_cons_self).1 (t + 1) y _ _ (hm y List.mem_cons_self) h
    clear h
    obtain ⟨rfl, h⟩ := hp
    have hp := sts_dec t l m r s (fun z hz => hl z (List.mem_cons_of_mem _ hz)) (fun z hz => hm z (List.mem_cons_of_mem _ hz)) hr hs h
    clear h
    obtain ⟨rfl, h⟩ := hp
    exact ⟨rfl, h⟩
theorem hard59 (l : Bs) : Hard (59 :: l) := hard_cons (by decide)
theorem hard41 (l : Bs) : Hard (41 :: l) := hard_cons (by decide)
theorem hard93 (l : Bs) : Hard (93 :: l) := hard_cons (by decide)
theorem name_word {nm w : Bs} (h : isName nm = true) (hw : isWord w = true) (e : nm = w) : False := by
  subst e; rw [(isName_parts h).2.1] at hw; cases hw
theorem wd_word (x : St) (h1 : 3 ≤ x.kind) (h2 : x.kind ≤ 9) : isWord (wdS x) = true := by
  have hk : x.kind = 3 ∨ x.kind = 4 ∨ x.kind = 5 ∨ x.kind = 6 ∨ x.kind = 7 ∨ x.kind = 8 ∨ x.kind = 9 := by omega
  unfold wdS
  rcases hk with h | h | h | h | h | h | h
  all_goals
    rw [h]; simp only [Int.reduceEq, if_true, if_false, reduceIte]; decide
theorem st_dec {x : St} (hX : SOk x) (ih : ∀ y, SizeOf.sizeOf y < SizeOf.sizeOf x → SOk y → SDec y) : SDec x := by
  intro t y r s hY h
  obtain ⟨t1, c1, f1, _⟩ := st_parts hX t
  obtain ⟨t2, c2, f2, _⟩ := st_parts hY t
  rw [t1, t2] at h
  simp only [List.append_assoc] at h
  replace h := List.append_cancel_left h
  have hp := span_eq isNC _ _ _ _ c1 c2 (f1 r) (f2 s) h
  clear h
  obtain ⟨hn, h⟩ := hp
  clear t1 t2 c1 c2 f1 f2
  have hc := canonS hX
  have hc' := canonS hY
  cases hc with
  | set nm x hnm hx =>
    cases hc' with
    | set nm' x' hnm' hx' =>
      have hn : nm = nm' := hn
      subst hn
      simp only [tlS, St.kind, St.args, exAt, List.getD_cons_zero, if_true, List.append_assoc, List.cons_append, List.nil_append, List.cons.injEq, true_and] at h
      have hp := ex_any hx x' _ _ hx' (hard59 _) (hard59 _) h
      clear h
      obtain ⟨rfl, h⟩ := hp
      exact ⟨rfl, by simpa using h⟩
    | store => simp [tlS, St.kind] at h
    | call => simp [tlS, St.kind] at h
    | _ => exact (name_word hnm (wd_word _ (by simp [St.kind]) (by simp [St.kind])) hn).elim
  | store nm x z hnm hx hz =>
    cases hc' with
    | store nm' x' z' hnm' hx' hz' =>
      have hn : nm = nm' := hn
      subst hn
      simp only [tlS, St.kind, St.args, exAt, List.getD_cons_zero, List.getD_cons_succ, Int.reduceEq, if_true, if_false, reduceIte, List.append_assoc, List.cons_append, List.nil_append, List.cons.injEq, true_and] at h
      have hp := ex_any hx x' _ _ hx' (hard93 _) (hard93 _) h
      clear h
      obtain ⟨rfl, h⟩ := hp
      simp only [List.cons.injEq, true_and] at h
      have hp := ex_any hz z' _ _ hz' (hard59 _) (hard59 _) h
      clear h
      obtain ⟨rfl, h⟩ := hp
      exact ⟨rfl, by simpa using h⟩
    | set => simp [tlS, St.kind] at h
    | call => simp [tlS, St.kind] at h
    | _ => exact (name_word hnm (wd_word _ (by simp [St.kind]) (by simp [St.kind])) hn).elim
  | call nm l hnm hlen hl =>
    cases hc' with
    | call nm' l' hnm' hlen' hl' =>
      have hn : nm = nm' := hn
      subst hn
      simp only [tlS, St.kind, St.args, Ex.args, exAt, List.getD_cons_zero, Int.reduceEq, if_true, if_false, reduceIte, or_self, List.append_assoc, List.cons_append, List.nil_append, List.cons.injEq, true_and] at h
      have hp := args_dec l l' _ _ (fun z hz => ⟨ex_any (hl z hz), hl z hz⟩) hl' h
      clear h
      obtain ⟨rfl, h⟩ := hp
      exact ⟨rfl, by simpa using h⟩
    | set => simp [tlS, St.kind] at h
    | store => simp [tlS, St.kind] at h
    | _ => exact (name_word hnm (wd_word _ (by simp [St.kind]) (by simp [St.kind])) hn).elim
  | brk =>
    cases hc' with
    | brk => exact ⟨rfl, by simpa [tlS, St.kind] using h⟩
    | set nm' x' hnm' hx' => exact (name_word hnm' (wd_word _ (by simp [St.kind]) (by simp [St.kind])) hn.symm).elim
    | store nm' x' z' hnm' hx' hz' => exact (name_word hnm' (wd_word _ (by simp [St.kind]) (by simp [St.kind])) hn.symm).elim
    | call nm' l' hnm' hlen' hl' => exact (name_word hnm' (wd_word _ (by simp [St.kind]) (by simp [St.kind])) hn.symm).elim
    | _ => simp [wdS, St.kind] at hn
  | cont =>
    cases hc' with
    | cont => exact ⟨rfl, by simpa [tlS, St.kind] using h⟩
    | set nm' x' hnm' hx' => exact (name_word hnm' (wd_word _ (by simp [St.kind]) (by simp [St.kind])) hn.symm).elim
    | store nm' x' z' hnm' hx' hz' => exact (name_word hnm' (wd_word _ (by simp [St.kind]) (by simp [St.kind])) hn.symm).elim
    | call nm' l' hnm' hlen' hl' => exact (name_word hnm' (wd_word _ (by simp [St.kind]) (by simp [St.kind])) hn.symm).elim
    | _ => simp [wdS, St.kind] at hn
  | ret x hx =>
    cases hc' with
    | ret x' hx' =>
      simp only [tlS, St.kind, St.args, exAt, List.getD_cons_zero, Int.reduceEq, if_true, if_false, reduceIte, or_self, List.append_assoc, List.cons_append, List.nil_append, List.cons.injEq, true_and] at h
      have hp := ex_any hx x' _ _ hx' (hard59 _) (hard59 _) h
      clear h
      obtain ⟨rfl, h⟩ := hp
      exact ⟨rfl, by simpa using h⟩
    | set nm' x' hnm' hx' => exact (name_word hnm' (wd_word _ (by simp [St.kind]) (by simp [St.kind])) hn.symm).elim
    | store nm' x' z' hnm' hx' hz' => exact (name_word hnm' (wd_word _ (by simp [St.kind]) (by simp [St.kind])) hn.symm).elim
    | call nm' l' hnm' hlen' hl' => exact (name_word hnm' (wd_word _ (by simp [St.kind]) (by simp [St.kind])) hn.symm).elim
    | _ => simp [wdS, St.kind] at hn
  | prt x hx =>
    cases hc' with
    | prt x' hx' =>
      simp only [tlS, St.kind, St.args, exAt, List.getD_cons_zero, Int.reduceEq, if_true, if_false, reduceIte, or_self, true_or, or_true, List.append_assoc, List.cons_append, List.nil_append, List.cons.injEq, true_and] at h
      have hp := ex_any hx x' _ _ hx' (hard41 _) (hard41 _) h
      clear h
      obtain ⟨rfl, h⟩ := hp
      exact ⟨rfl, by simpa using h⟩
    | set nm' x' hnm' hx' => exact (name_word hnm' (wd_word _ (by simp [St.kind]) (by simp [St.kind])) hn.symm).elim
    | store nm' x' z' hnm' hx' hz' => exact (name_word hnm' (wd_word _ (by simp [St.kind]) (by simp [St.kind])) hn.symm).elim
    | call nm' l' hnm' hlen' hl' => exact (name_word hnm' (wd_word _ (by simp [St.kind]) (by simp [St.kind])) hn.symm).elim
    | _ => simp [wdS, St.kind] at hn
  | trp x hx =>
    cases hc' with
    | trp x' hx' =>
      simp only [tlS, St.kind, St.args, exAt, List.getD_cons_zero, Int.reduceEq, if_true, if_false, reduceIte, or_self, true_or, or_true, List.append_assoc, List.cons_append, List.nil_append, List.cons.injEq, true_and] at h
      have hp := ex_any hx x' _ _ hx' (hard41 _) (hard41 _) h
      clear h
      obtain ⟨rfl, h⟩ := hp
      exact ⟨rfl, by simpa using h⟩
    | set nm' x' hnm' hx' => exact (name_word hnm' (wd_word _ (by simp [St.kind]) (by simp [St.kind])) hn.symm).elim
    | store nm' x' z' hnm' hx' hz' => exact (name_word hnm' (wd_word _ (by simp [St.kind]) (by simp [St.kind])) hn.symm).elim
    | call nm' l' hnm' hlen' hl' => exact (name_word hnm' (wd_word _ (by simp [St.kind]) (by simp [St.kind])) hn.symm).elim
    | _ => simp [wdS, St.kind] at hn
  | loop x a hx ha =>
    have da : ∀ z, z ∈ a → SDec z ∧ SOk z := fun z hz => ⟨ih z (by have := List.sizeOf_lt_of_mem hz; simp +arith; omega) (ha z hz), ha z hz⟩
    cases hc' with
    | loop x' a' hx' ha' =>
      simp only [tlS, St.kind, St.args, St.thn, exAt, List.getD_cons_zero, Int.reduceEq, if_true, if_false, reduceIte, or_self, List.append_assoc, List.cons_append, List.nil_append, List.cons.injEq, true_and] at h
      have hp := ex_any hx x' _ _ hx' (hard41 _) (hard41 _) h
      clear h
      obtain ⟨rfl, h⟩ := hp
      simp only [List.cons.injEq, true_and, ln, List.append_assoc, List.flatten_cons, List.flatten_nil, List.append_nil, List.cons_append, List.nil_append] at h
      have hp := sts_dec t a a' _ _ da ha' ⟨_, rfl⟩ ⟨_, rfl⟩ h
      clear h
      obtain ⟨rfl, h⟩ := hp
      replace h := List.append_cancel_left h
      exact ⟨rfl, by simpa using h⟩
    | set nm' x' hnm' hx' => exact (name_word hnm' (wd_word _ (by simp [St.kind]) (by simp [St.kind])) hn.symm).elim
    | store nm' x' z' hnm' hx' hz' => exact (name_word hnm' (wd_word _ (by simp [St.kind]) (by simp [St.kind])) hn.symm).elim
    | call nm' l' hnm' hlen' hl' => exact (name_word hnm' (wd_word _ (by simp [St.kind]) (by simp [St.kind])) hn.symm).elim
    | _ => simp [wdS, St.kind] at hn
  | iff x a b hx ha hb =>
    have da : ∀ z, z ∈ a → SDec z ∧ SOk z := fun z hz => ⟨ih z (by have := List.sizeOf_lt_of_mem hz; simp +arith; omega) (ha z hz), ha z hz⟩
    have db : ∀ z, z ∈ b → SDec z ∧ SOk z := fun z hz => ⟨ih z (by have := List.sizeOf_lt_of_mem hz; simp +arith; omega) (hb z hz), hb z hz⟩
    cases hc' with
    | iff x' a' b' hx' ha' hb' =>
      simp only [tlS, St.kind, St.args, St.thn, St.els, exAt, List.getD_cons_zero, Int.reduceEq, if_true, if_false, reduceIte, or_self, List.append_assoc, List.cons_append, List.nil_append, List.cons.injEq, true_and] at h
      have hp := ex_any hx x' _ _ hx' (hard41 _) (hard41 _) h
      clear h
      obtain ⟨rfl, h⟩ := hp
      simp only [List.cons.injEq, true_and] at h
      have bend : ∀ (c : List St) (q : Bs), BEnd t ((if c.isEmpty = true then [] else ln t [[125, 32, 101, 108, 115, 101, 32, 123]] ++ stsText (t + 1) c) ++ (ln t [[125]] ++ q)) := fun c q => by
        cases c with
        | nil => exact ⟨10 :: q, by simp [ln]⟩
        | cons z c => exact ⟨32 :: 101 :: 108 :: 115 :: 101 :: 32 :: 123 :: 10 :: (stsText (t + 1) (z :: c) ++ (tabsOf t ++ 125 :: 10 :: q)), by simp only [List.isEmpty_cons, Bool.false_eq_true, if_false, ln, List.append_assoc, List.flatten_cons, List.flatten_nil, List.append_nil, List.cons_append, List.nil_append]⟩
      have hp := sts_dec t a a' _ _ da ha' (bend b r) (bend b' s) h
      clear h
      obtain ⟨rfl, h⟩ := hp
      cases b with
      | nil =>
        cases b' with
        | nil =>
          simp only [List.isEmpty_nil, if_true, List.nil_append] at h
          exact ⟨rfl, List.append_cancel_left h⟩
        | cons z b' =>
          simp only [List.isEmpty_nil, List.isEmpty_cons, Bool.false_eq_true, if_true, if_false, List.nil_append, ln, List.append_assoc, List.flatten_cons, List.flatten_nil, List.append_nil, List.cons_append] at h
          replace h := List.append_cancel_left h
          simp at h
      | cons z b =>
        cases b' with
        | nil =>
          simp only [List.isEmpty_nil, List.isEmpty_cons, Bool.false_eq_true, if_true, if_false, List.nil_append, ln, List.append_assoc, List.flatten_cons, List.flatten_nil, List.append_nil, List.cons_append] at h
          replace h := List.append_cancel_left h
          simp at h
        | cons z' b' =>
          simp only [List.isEmpty_cons, Bool.false_eq_true, if_false, List.append_assoc] at h
          replace h := List.append_cancel_left h
          have hp := sts_dec t (z :: b) (z' :: b') _ _ db hb' ⟨10 :: r, by simp only [ln, List.append_assoc, List.flatten_cons, List.flatten_nil, List.append_nil, List.cons_append, List.nil_append]⟩ ⟨10 :: s, by simp only [ln, List.append_assoc, List.flatten_cons, List.flatten_nil, List.append_nil, List.cons_append, List.nil_append]⟩ h
          clear h
          obtain ⟨e1, h⟩ := hp
          rw [e1]
          exact ⟨rfl, List.append_cancel_left h⟩
    | set nm' x' hnm' hx' => exact (name_word hnm' (wd_word _ (by simp [St.kind]) (by simp [St.kind])) hn.symm).elim
    | store nm' x' z' hnm' hx' hz' => exact (name_word hnm' (wd_word _ (by simp [St.kind]) (by simp [St.kind])) hn.symm).elim
    | call nm' l' hnm' hlen' hl' => exact (name_word hnm' (wd_word _ (by simp [St.kind]) (by simp [St.kind])) hn.symm).elim
    | _ => simp [wdS, St.kind] at hn
theorem st_all : ∀ (n : Nat) (x : St), SizeOf.sizeOf x ≤ n → SOk x → SDec x
  | 0, x, hn, _ => by cases x; simp at hn
  | n + 1, x, hn, hx => st_dec hx (fun y hy sy => st_all n y (by omega) sy)
theorem st_any {x : St} (h : SOk x) : SDec x := st_all _ x (Nat.le_refl _) h
end Go.Proofs.YtgmaeflfiooigaaGreatDoor
