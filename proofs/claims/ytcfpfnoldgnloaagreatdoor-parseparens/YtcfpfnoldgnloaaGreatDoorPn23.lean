/-
  Pieces as tokens with blanks behind them: the text, what Scan gives, what may stand beside what. No condition.
  Expr of an expression in parentheses; with one too many on either side. Conditions: the expression may be; the library's tables lie in memory.
  Right trees have the shapes that texts are made of. Plain functions alone.
  Plain functions: are two programs the same; how many statements and expressions there are. No program in sight.
  How long the texts of raw programs are; how many parts they have. No program in sight.
-/
import Derived.Test.YtcfpfnoldgnloaaGreatDoorPn21
import Derived.Test.YtcfpfnoldgnloaaGreatDoorPn22
import Derived.Test.YtcfpfnoldgnloaaGreatDoorPn00
import Derived.Test.YtcfpfnoldgnloaaGreatDoorPn03
import Derived.Lib.ItoaLen
set_option linter.unusedVariables false
set_option linter.unusedSimpArgs false
namespace Go.Proofs.YtcfpfnoldgnloaaGreatDoor
open Go.RowKit
set_option maxHeartbeats 4000000
set_option maxRecDepth 100000

/-- The blanks ahead. -/
def gapHead : List Pc → Bs
  | .g b :: l => b ++ gapHead l
  | _ => []
def itsOf : List Pc → List It
  | [] => []
  | .g _ :: l => itsOf l
  | .t x :: l => ⟨x.text, x.kind, x.num, gapHead l, []⟩ :: itsOf l
theorem its_text : ∀ l : List Pc, gapHead l ++ itText (itsOf l) = pcText l
  | [] => rfl
  | .g b :: l => by
    show (b ++ gapHead l) ++ itText (itsOf l) = b ++ pcText l
    rw [List.append_assoc, its_text l]
  | .t x :: l => by
    show [] ++ itText (_ :: itsOf l) = x.text ++ pcText l
    rw [itText_cons, List.nil_append]
    show x.text ++ (gapText (gapHead l) [] ++ itText (itsOf l)) = _
    rw [show gapText (gapHead l) [] = gapHead l by unfold gapText; simp, its_text l]
theorem toks_t3 : ∀ (l : List Pc) (line : Nat), (toks line (itsOf l)).map t3 = pcTk l
  | [], line => rfl
  | .g b :: l, line => toks_t3 l line
  | .t x :: l, line => by
    show (⟨x.kind, x.text, x.num, line⟩ : Tk) |> fun t => t3 t :: (toks _ (itsOf l)).map t3 = x :: pcTk l
    rw [toks_t3 l]; rfl
def TokOk (x : T3) : Prop := PcOk x.text x.kind x.num ∧ (x.kind = 3 → ∀ r, x.text ≠ 39 :: r) ∧ I64 x.num
def PcsOk (l : List Pc) : Prop := ∀ p, p ∈ l → match p with | .t x => TokOk x | .g b => ∀ c, c ∈ b → isBlank c = true
theorem gapHead_blank : ∀ (l : List Pc), PcsOk l → ∀ c, c ∈ gapHead l → isBlank c = true
  | [], h, c, hc => by cases hc
  | .t x :: l, h, c, hc => by cases hc
  | .g b :: l, h, c, hc => by
    rcases List.mem_append.1 (show c ∈ b ++ gapHead l from hc) with hc | hc
    · exact h (.g b) List.mem_cons_self c hc
    · exact gapHead_blank l (fun p hp => h p (List.mem_cons_of_mem _ hp)) c hc
theorem its_ok (z : Bs) : ∀ (l : List Pc), PcsOk l → SepL sepB l z → ItsOk z (itsOf l) ∧ ∀ i, i ∈ itsOf l → I64 i.n
  | [], h, hs => ⟨trivial, fun i hi => by cases hi⟩
  | .g b :: l, h, hs => its_ok z l (fun p hp => h p (List.mem_cons_of_mem _ hp)) hs
  | .t x :: l, h, hs => by
    have hl : PcsOk l := fun p hp => h p (List.mem_cons_of_mem _ hp)
    obtain ⟨i1, i2⟩ := its_ok z l hl hs.2
    obtain ⟨h1, h2, h3⟩ : TokOk x := h (.t x) List.mem_cons_self
    have hg : gapText (gapHead l) [] = gapHead l := by unfold gapText; simp
    refine ⟨⟨tokAt_of h1 h2 ?_, ⟨gapHead_blank l hl, fun p hp => by cases hp⟩, i1⟩, fun i hi => ?_⟩
    · show sepB x.kind (gapText (gapHead l) [] ++ (itText (itsOf l) ++ z)) = true
      rw [hg, ← List.append_assoc, its_text]; exact hs.1
    · rcases List.mem_cons.1 hi with rfl | hi
      · exact h3
      · exact i2 i hi
theorem sepB_4 {c : UInt8} {r : Bs} (h7 : c.toNat < 128) (h : c ≠ 61 ∧ c ≠ 60 ∧ c ≠ 62 ∧ c ≠ 47) : sepB 4 (c :: r) = true := by
  obtain ⟨h1, h2, h3, h4⟩ := h
  simp [sepB, h7, h1, h2, h3, h4]
theorem sepR : SepR sepB := by
  refine ⟨fun k => rfl, fun k c r h => ?_, fun c r h => ?_, fun k r h => ?_⟩
  · have hc : c = 32 ∨ c = 41 ∨ c = 93 ∨ c = 44 ∨ c = 59 ∨ c = 10 := by simpa [softB, or_assoc] using h
    by_cases h4 : k = 4
    · subst h4; rcases hc with rfl | rfl | rfl | rfl | rfl | rfl <;> exact sepB_4 (by decide) (by decide)
    · by_cases h3 : k = 3
      · subst h3; rcases hc with rfl | rfl | rfl | rfl | rfl | rfl <;> (unfold sepB; dsimp only; rw [if_neg (by decide), if_pos rfl]; decide)
      · unfold sepB
        rcases hc with rfl | rfl | rfl | rfl | rfl | rfl <;> (dsimp only; rw [if_neg h4, if_neg h3]; decide)
  · unfold headB at h
    by_cases hl : isLetter c = true
    · have := letter_ge hl
      exact sepB_4 (letter_lt hl) ⟨by rintro rfl; exact absurd this (by decide), by rintro rfl; exact absurd this (by decide), by rintro rfl; exact absurd this (by decide), by rintro rfl; exact absurd this (by decide)⟩
    · by_cases hd : isDigit c = true
      · have h1 := digit_ge hd
        have h2 := digit_lt hd
        exact sepB_4 h2 ⟨by rintro rfl; exact absurd hd (by decide), by rintro rfl; exact absurd hd (by decide), by rintro rfl; exact absurd hd (by decide), by rintro rfl; exact absurd hd (by decide)⟩
      · have hc : c = 40 ∨ c = 45 ∨ c = 33 ∨ c = 126 := by simpa [hl, hd, or_assoc] using h
        rcases hc with rfl | rfl | rfl | rfl <;> exact sepB_4 (by decide) (by decide)
  · by_cases h4 : k = 4
    · subst h4; exact ⟨sepB_4 (by decide) (by decide), sepB_4 (by decide) (by decide)⟩
    · refine ⟨?_, ?_⟩ <;> (unfold sepB; dsimp only; rw [if_neg h4, if_neg h]; decide)
theorem digL : DigL := fun u => ⟨digit_mem u, digits_ne u⟩
theorem nDigits_le19 (u : Nat) (h : u < 10000000000000000000) : Lib.nDigits u ≤ 19 := by
  by_cases h0 : u < 10
  · rw [Lib.nDigits, dif_pos h0]; decide
  · have step : ∀ (n u : Nat), (¬ u < 10 → Lib.nDigits (u / 10) ≤ n) → Lib.nDigits u ≤ n + 1 := fun n u h => by
      rw [Lib.nDigits]
      split
      · omega
      · rename_i hh; have := h hh; omega
    have pw : ∀ (n u : Nat), u < 10 ^ (n + 1) → Lib.nDigits u ≤ n + 1 := by
      intro n
      induction n with
      | zero => intro u hu; rw [Lib.nDigits, dif_pos (by omega)]; omega
      | succ n ih => intro u hu; exact step (n + 1) u (fun _ => ih (u / 10) (by rw [Nat.pow_succ] at hu; omega))
    exact pw 18 u (by omega)
/-- An expression's tokens. -/
theorem num_ok {n : Int} (h0 : 0 ≤ n) (h1 : I64 n) : TokOk ⟨3, Lib.itoa n, n⟩ := by
  have e : Lib.itoa n = Lib.decDigits n.toNat := by unfold Lib.itoa; rw [if_neg (by omega)]
  have hu : (n.toNat : Int) = n := by omega
  have hb : n.toNat ≤ 9223372036854775807 := by have := h1.2; omega
  refine ⟨?_, fun _ r hr => ?_, h1⟩
  · show PcOk (Lib.itoa n) 3 n
    rw [e]
    rcases hq : Lib.decDigits n.toNat with _ | ⟨c, t⟩
    · exact absurd hq (digits_ne _)
    · have hlen : (Lib.decDigits n.toNat).length ≤ 19 := by
        rw [Lib.decDigits_length]; exact nDigits_le19 _ (by omega)
      have := PcOk.num n.toNat hlen hb c t hq (digit_mem _ c (by rw [hq]; exact List.mem_cons_self))
      rw [hu] at this
      rw [← hq]; exact this
  · have hr : Lib.itoa n = 39 :: r := hr
    rw [e] at hr
    have := digit_mem n.toNat 39 (by rw [hr]; exact List.mem_cons_self)
    exact absurd this (by decide)
theorem nameAt_all : ∀ (f : Bool) (x : Bs), isNameAt f x = true → ∀ c, c ∈ x → c.toNat < 128 ∧ wordR (c.toNat : Nat) = true
  | _, [], _, c, hc => by cases hc
  | f, d :: l, h, c, hc => by
    rw [isNameAt] at h
    obtain ⟨h1, h2⟩ := (Bool.and_eq_true _ _).mp h
    rcases List.mem_cons.1 hc with rfl | hc
    · unfold wordR
      rw [letterR_of, digitR_of]
      rcases (Bool.or_eq_true _ _).mp h1 with h3 | h3
      · exact ⟨letter_lt h3, by rw [h3]; rfl⟩
      · have h4 := ((Bool.and_eq_true _ _).mp h3).2
        exact ⟨digit_lt h4, by rw [h4]; simp⟩
    · exact nameAt_all false l h2 c hc
theorem name_ok {s : Bs} (h : isName s = true) : TokOk ⟨1, s, 0⟩ := by
  have h' := h
  unfold isName at h'
  simp only [Bool.and_eq_true] at h'
  obtain ⟨⟨⟨h1, h2⟩, h3⟩, h4⟩ := h'
  refine ⟨?_, fun e => absurd (show (1 : Int) = 3 from e) (by decide), yi64_0⟩
  cases s with
  | nil => exact absurd h1 (by decide)
  | cons c t =>
    have hl : isLetter c = true := by
      rw [isNameAt] at h4
      have := ((Bool.and_eq_true _ _).mp h4).1
      simpa using this
    exact .name (c :: t) h (by simpa using h3) c t rfl hl (nameAt_all true _ h4)
theorem sign_ok {x : Bs} (h : isSign x = true) : TokOk ⟨4, x, 0⟩ := ⟨pc_sign h, fun e => absurd (show (4 : Int) = 3 from e) (by decide), yi64_0⟩
theorem sign_of {o : Int} (h : 0 < levelOf o ∨ o = 17 ∨ o = 18 ∨ o = 19) : isSign (signOf o) = true := by
  rcases h with h | rfl | rfl | rfl
  · obtain ⟨i, rfl⟩ := op_cases h
    exact (by decide : ∀ i : Fin 16, isSign (signOf ((i.val : Int) + 1)) = true) i
  · decide
  · decide
  · decide
/-- Every number in it is an int. -/
inductive N64 : Ex → Prop
  | mk (k o n : Int) (nm : Bs) (args : List Ex) (h : I64 n) (ha : ∀ x, x ∈ args → N64 x) : N64 (.mk k o n nm args)
theorem PcsOk.app {a b : List Pc} (h1 : PcsOk a) (h2 : PcsOk b) : PcsOk (a ++ b) := fun p hp => by
  rcases List.mem_append.1 hp with h | h
  · exact h1 p h
  · exact h2 p h
theorem PcsOk.cons {p : Pc} {l : List Pc} (h1 : match p with | .t x => TokOk x | .g b => ∀ c, c ∈ b → isBlank c = true) (h2 : PcsOk l) : PcsOk (p :: l) := fun q hq => by
  rcases List.mem_cons.1 hq with rfl | h
  · exact h1
  · exact h2 q h
theorem PcsOk.nil : PcsOk [] := fun p hp => by cases hp
theorem wrap_ok {e : Ex} {lv : Int} (h : PcsOk (exPc e)) : PcsOk (partPc e lv) := by
  unfold partPc wrapPc
  split
  · exact PcsOk.app (PcsOk.app (PcsOk.cons (sign_ok (by decide)) PcsOk.nil) h) (PcsOk.cons (sign_ok (by decide)) PcsOk.nil)
  · exact h
theorem ex_toks {e : Ex} (h : WEx e) (hn : N64 e) : PcsOk (exPc e) := by
  induction h with
  | num n h => cases hn with | mk _ _ _ _ _ h1 ha => rw [exPc_1]; exact PcsOk.cons (num_ok h h1) PcsOk.nil
  | var s h => rw [exPc_2]; exact PcsOk.cons (name_ok h) PcsOk.nil
  | one o x ho hx ih => cases hn with | mk _ _ _ _ _ h1 ha => rw [exPc_3]; exact PcsOk.cons (sign_ok (sign_of (.inr ho))) (wrap_ok (ih (ha x List.mem_cons_self)))
  | two o x y ho hx hy ihx ihy =>
    cases hn with
    | mk _ _ _ _ _ h1 ha =>
      rw [exPc_4]
      refine PcsOk.app (wrap_ok (ihx (ha x List.mem_cons_self))) (PcsOk.cons (by show ∀ c, c ∈ [32] → _; decide) (PcsOk.cons (sign_ok (sign_of (.inl ho))) (PcsOk.cons (by show ∀ c, c ∈ [32] → _; decide) (wrap_ok (ihy (ha y (by simp)))))))
  | call s l h hl hx ih =>
    cases hn with
    | mk _ _ _ _ _ h1 ha =>
      rw [exPc_5]
      refine PcsOk.cons (name_ok h) (PcsOk.cons (sign_ok (by decide)) (PcsOk.app ?_ (PcsOk.cons (sign_ok (by decide)) PcsOk.nil)))
      have hm : ∀ (l : List Ex), (∀ x, x ∈ l → PcsOk (exPc x)) → PcsOk (l.flatMap (fun y => [sg [44], .g [32]] ++ exPc y)) := by
        intro l hl p hp
        obtain ⟨y, hy, hp⟩ := List.mem_flatMap.1 hp
        exact PcsOk.app (PcsOk.cons (sign_ok (by decide)) (PcsOk.cons (by show ∀ c, c ∈ [32] → _; decide) PcsOk.nil)) (hl y hy) p hp
      cases l with
      | nil => exact PcsOk.nil
      | cons x l =>
        rw [sep_cons]
        exact PcsOk.app (ih x List.mem_cons_self (ha x List.mem_cons_self)) (hm l (fun y hy => ih y (List.mem_cons_of_mem _ hy) (ha y (List.mem_cons_of_mem _ hy))))
  | idx s x h hx ih =>
    cases hn with
    | mk _ _ _ _ _ h1 ha => rw [exPc_6]; exact PcsOk.cons (name_ok h) (PcsOk.cons (sign_ok (by decide)) (PcsOk.app (ih (ha x List.mem_cons_self)) (PcsOk.cons (sign_ok (by decide)) PcsOk.nil)))
  | read => rw [exPc_7]; exact PcsOk.cons ⟨pc_word (by decide) (by decide), fun e => absurd (show (2 : Int) = 3 from e) (by decide), yi64_0⟩ (PcsOk.cons (sign_ok (by decide)) (PcsOk.cons (sign_ok (by decide)) PcsOk.nil))
theorem par_toks {e : Ex} (h : WEx e) (hn : N64 e) : ∀ k, PcsOk (parPc e k)
  | 0 => ex_toks h hn
  | k + 1 => PcsOk.cons (sign_ok (by decide)) (PcsOk.app (par_toks h hn k) (PcsOk.cons (sign_ok (by decide)) PcsOk.nil))
theorem ExsAt.n64 {D : Nat → Prop} {w : World} {l : List Ex} {v : Value} (h : ExsAt D w l v) : ∀ x, x ∈ l → N64 x := by
  induction h with
  | mk l a cap b off sv hcap hfit ha h0 h1 h2 h3 h4 hs hn ih =>
    intro x hx
    obtain ⟨i, hi, rfl⟩ := List.getElem_of_mem hx
    have e : exAt l i = l[i] := by simp [exAt, List.getElem?_eq_getElem hi]
    have h1 := ih i hi
    have h2 := hn i hi
    rw [e] at h1 h2
    generalize l[i] = y at h1 h2
    obtain ⟨k, o, n, nm, args⟩ := y
    exact .mk k o n nm args h2 h1
theorem itsOf_app : ∀ a b : List Pc, (itsOf (a ++ b)).length = (itsOf a).length + (itsOf b).length
  | [], b => by simp [itsOf]
  | .g x :: a, b => itsOf_app a b
  | .t x :: a, b => by show (itsOf (a ++ b)).length + 1 = (itsOf a).length + 1 + _; rw [itsOf_app a b]; omega
theorem tok_ne {x : T3} (h : TokOk x) : x.text ≠ [] := h.1.ne
theorem its_len : ∀ l : List Pc, PcsOk l → (itsOf l).length ≤ (pcText l).length
  | [], h => Nat.le_refl _
  | .g b :: l, h => by
    have := its_len l (fun p hp => h p (List.mem_cons_of_mem _ hp))
    show (itsOf l).length ≤ (b ++ pcText l).length
    rw [List.length_append]; omega
  | .t x :: l, h => by
    have := its_len l (fun p hp => h p (List.mem_cons_of_mem _ hp))
    have h1 : x.text ≠ [] := tok_ne (h (.t x) List.mem_cons_self)
    have h2 : 0 < x.text.length := List.length_pos_iff.2 h1
    show (itsOf l).length + 1 ≤ (x.text ++ pcText l).length
    rw [List.length_append]; omega
/-- Expr of pieces that may stand so: what the parser makes of their tokens. -/
theorem expr_pcs (l : List Pc) (h0 : gapHead l = []) (hp : PcsOk l) (hs : SepL sepB l []) (hlen : (pcText l).length ≤ 20000) (Q : Ex × Int × Int → Prop)
    (hz : ∀ (T : List Tk) (u : Tk), T.map t3 = pcTk l → u.kind = 5 → u.text = [] → ∃ z, Ev (fun f => climbP f 1 (T ++ [u])) z ∧ Q (finE (outE z))) (w : World) (hl : ZLib w) :
    Calls Tryz.prog 13 #[.string (strOf (pcText l))] w fun e w' => ∃ r, Q r ∧ WhE w r e w' := by
  obtain ⟨i1, i2⟩ := its_ok [] l hp hs
  have ht := its_text l
  rw [h0, List.nil_append] at ht
  obtain ⟨z, ⟨f0, hf⟩, hq⟩ := hz (toks (1 + feeds (gapText [] [])) (itsOf l)) ⟨5, [], 0, endL (1 + feeds (gapText [] [])) (itsOf l)⟩ (toks_t3 l _) rfl rfl
  have hil := its_len l hp
  have hx := expr_its [] [] ygap_nil (itsOf l) i1 i2 (by show ([] ++ itText (itsOf l)).length ≤ 20000; rw [List.nil_append, ht]; exact hlen) (by omega) (f0 + 4 * ((itsOf l).length + 1) + 4) (by omega) w hl
  have e0 : gapText [] [] ++ itText (itsOf l) = pcText l := by rw [← ht]; rfl
  rw [e0] at hx
  refine hx.mono ?_
  intro e w' hp
  have e1 : climbP (f0 + 4 * ((itsOf l).length + 1) + 4) 1 (scanned (1 + feeds (gapText [] [])) (itsOf l)) = z := hf _ (by omega)
  rw [e1] at hp
  exact ⟨_, hq, hp⟩
end Go.Proofs.YtcfpfnoldgnloaaGreatDoor

namespace Go.Proofs.YtcfpfnoldgnloaaGreatDoor
open Go.RowKit
set_option maxHeartbeats 4000000
set_option maxRecDepth 100000

theorem par_gap {e : Ex} (h : WEx e) : ∀ (k : Nat) (r : List Pc), gapHead (parPc e k ++ r) = []
  | k + 1, r => rfl
  | 0, r => by
    have wrap : ∀ (e : Ex) (lv : Int) (r : List Pc), (∀ r, gapHead (exPc e ++ r) = []) → gapHead (partPc e lv ++ r) = [] := by
      intro e lv r h
      unfold partPc wrapPc
      split
      · rfl
      · exact h r
    have all : ∀ r, gapHead (exPc e ++ r) = [] := by
      induction h with
      | num n h => intro r; rw [exPc_1]; rfl
      | var s h => intro r; rw [exPc_2]; rfl
      | one o x ho hx ih => intro r; rw [exPc_3]; rfl
      | two o x y ho hx hy ihx ihy => intro r; rw [exPc_4, List.append_assoc]; exact wrap _ _ _ ihx
      | call s l h hl hx ih => intro r; rw [exPc_5]; rfl
      | idx s x h hx ih => intro r; rw [exPc_6]; rfl
      | read => intro r; rw [exPc_7]; rfl
    exact all r
def parT (t : Bs) : Nat → Bs
  | 0 => t
  | k + 1 => [40] ++ parT t k ++ [41]
theorem parT_len (t : Bs) : ∀ k, (parT t k).length = t.length + 2 * k
  | 0 => rfl
  | k + 1 => by rw [parT, List.length_append, List.length_append, parT_len t k]; simp; omega
theorem parT_text (e : Ex) : ∀ k, pcText (parPc e k) = parT (exText e) k
  | 0 => exPc_text e
  | k + 1 => by
    show [40] ++ pcText (parPc e k ++ [sg [41]]) = [40] ++ parT (exText e) k ++ [41]
    rw [pcText_app, parT_text e k, ← List.append_assoc]; rfl
theorem end_open {u : Tk} {r : List Tk} (h : u.text = []) : NoOpen (u :: r) ∧ binaryP 1 (u :: r) = 0 := ⟨open_text (.inr (.inr (.inr (.inr h)))), bin_text (.inr (.inr (.inr (.inr h))))⟩
theorem par_good {e : Ex} (hr : rightEx e = true) (h : WEx e) (hn : N64 e) (k : Nat) (hlen : (parT (exText e) k).length ≤ 20000) (w : World) (hl : ZLib w) :
    Calls Tryz.prog 13 #[.string (strOf (parT (exText e) k))] w (WhE w (e, 0, 0)) := by
  rw [← parT_text] at hlen ⊢
  refine (expr_pcs (parPc e k) (by have := par_gap h k []; rwa [List.append_nil] at this) (par_toks h hn k) (par_sep sepR digL h k [] (.inl rfl)) hlen (fun r => r = (e, 0, 0)) ?_ w hl).mono ?_
  · intro T u hT hu hx
    refine ⟨.ok (e, [u]), par_takes h k T [u] hT (end_open hx).1 (end_open hx).2, ?_⟩
    have h1 : outE (.ok (e, [u])) = (e, 0, 0) := by show (if u.kind = 5 then (e, (0 : Int), (0 : Int)) else (exZ, 40, u.line)) = _; rw [if_pos hu]
    rw [h1]; show (if (0 : Int) = 0 ∧ rightEx e = false then (exZ, (41 : Int), (1 : Int)) else (e, 0, 0)) = _; rw [if_neg (by rintro ⟨_, h2⟩; rw [hr] at h2; cases h2)]
  · rintro r w' ⟨R, rfl, hp⟩; exact hp
theorem finE_bad (n : Int) : finE (exZ, 40, n) = (exZ, 40, n) := by show (if (40 : Int) = 0 ∧ rightEx exZ = false then (exZ, (41 : Int), (1 : Int)) else (exZ, 40, n)) = _; rw [if_neg (by rintro ⟨h, _⟩; exact absurd h (by decide))]
theorem par_behind {e : Ex} (h : WEx e) (hn : N64 e) (k : Nat) (hlen : (parT (exText e) k ++ [41]).length ≤ 20000) (w : World) (hl : ZLib w) :
    Calls Tryz.prog 13 #[.string (strOf (parT (exText e) k ++ [41]))] w fun r w' => ∃ n, WhE w (exZ, 40, n) r w' := by
  have et : pcText (parPc e k ++ [sg [41]]) = parT (exText e) k ++ [41] := by rw [pcText_app, parT_text]; rfl
  rw [← et] at hlen ⊢
  refine (expr_pcs (parPc e k ++ [sg [41]]) (par_gap h k _) (PcsOk.app (par_toks h hn k) (PcsOk.cons (sign_ok (by decide)) PcsOk.nil)) (SepL.app (par_sep sepR digL h k _ (soft_of (by decide))) ⟨sepR.ofSoft (.inl rfl) 4, trivial⟩) hlen (fun r => ∃ n, r = (exZ, 40, n)) ?_ w hl).mono ?_
  · intro T u hT hu hx
    obtain ⟨t1, t2, rfl, h1, h2⟩ := For.app (show For T (parPc e k ++ [sg [41]]) from hT)
    obtain ⟨c, r, rfl, h3, h4⟩ := h2.cons
    have hc := is_sg h3
    have tc := isP_text hc
    rw [h4.nil]
    refine ⟨.ok (e, [c, u]), ?_, c.line, ?_⟩
    · have := par_takes h k t1 [c, u] h1 (open_text (.inl tc)) (bin_text (.inl tc))
      simpa using this
    · have hk : c.kind ≠ 5 := isP_kind hc
      have h5 : outE (.ok (e, [c, u])) = (exZ, 40, c.line) := by show (if c.kind = 5 then (e, (0 : Int), (0 : Int)) else (exZ, 40, c.line)) = _; rw [if_neg hk]
      rw [h5]; exact finE_bad _
  · rintro r w' ⟨R, ⟨n, rfl⟩, hp⟩; exact ⟨n, hp⟩
theorem par_ahead {e : Ex} (h : WEx e) (hn : N64 e) (k : Nat) (hlen : ([40] ++ parT (exText e) k).length ≤ 20000) (w : World) (hl : ZLib w) :
    Calls Tryz.prog 13 #[.string (strOf ([40] ++ parT (exText e) k))] w fun r w' => ∃ n, WhE w (exZ, 40, n) r w' := by
  have et : pcText (sg [40] :: parPc e k) = [40] ++ parT (exText e) k := by rw [← parT_text]; rfl
  rw [← et] at hlen ⊢
  refine (expr_pcs (sg [40] :: parPc e k) rfl (PcsOk.cons (sign_ok (by decide)) (par_toks h hn k)) ⟨by show sepB 4 (pcText (parPc e k) ++ []) = true; exact sepR.ofHead (par_head digL h k).app, par_sep sepR digL h k [] (.inl rfl)⟩ hlen (fun r => ∃ n, r = (exZ, 40, n)) ?_ w hl).mono ?_
  · intro T u hT hu hx
    obtain ⟨t, r, rfl, h3, h4⟩ := For.cons (show For T (sg [40] :: parPc e k) from hT)
    obtain ⟨n, hn⟩ := par_open h k t u r [] (is_sg h3) h4 hu hx
    exact ⟨.error n, hn, n, finE_bad n⟩
  · rintro r w' ⟨R, ⟨n, rfl⟩, hp⟩; exact ⟨n, hp⟩
end Go.Proofs.YtcfpfnoldgnloaaGreatDoor

namespace Go.Proofs.YtcfpfnoldgnloaaGreatDoor
/-- The seven forms of what may be. -/
inductive Canon : Ex → Prop
  | num (n : Int) (h : 0 ≤ n) : Canon (.mk 1 0 n [] [])
  | var (nm : Bs) (h : isName nm = true) : Canon (.mk 2 0 0 nm [])
  | one (o : Int) (x : Ex) (h : o = 17 ∨ o = 18 ∨ o = 19) (hx : wellOk x = true) : Canon (.mk 3 o 0 [] [x])
  | two (o : Int) (x y : Ex) (h : 0 < levelOf o) (hx : wellOk x = true) (hy : wellOk y = true) : Canon (.mk 4 o 0 [] [x, y])
  | call (nm : Bs) (l : List Ex) (h : isName nm = true) (hn : l.length ≤ 6) (hl : ∀ x, x ∈ l → wellOk x = true) : Canon (.mk 5 0 0 nm l)
  | index (nm : Bs) (x : Ex) (h : isName nm = true) (hx : wellOk x = true) : Canon (.mk 6 0 0 nm [x])
  | read : Canon (.mk 7 0 0 [] [])
theorem len2 {α : Type} {l : List α} (h : l.length = 2) : ∃ x y, l = [x, y] := by
  match l, h with
  | [x, y], _ => exact ⟨x, y, rfl⟩
theorem canon {e : Ex} (h : wellOk e = true) : Canon e := by
  obtain ⟨k, o, n, nm, l⟩ := e
  rw [wellOk_eq, Bool.and_eq_true] at h
  obtain ⟨h, ha0⟩ := h
  have ha : ∀ x, x ∈ l → wellOk x = true := List.all_eq_true.1 ha0
  clear ha0
  unfold wellHere at h
  simp only [Bool.and_eq_true, beq_iff_eq] at h
  obtain ⟨⟨⟨⟨h1, h2⟩, h3⟩, h4⟩, h5⟩ := h
  simp only [onlyOk, onlyArgs, onlyOp, onlyN, onlyName, Ex.kind, Ex.op, Ex.n, Ex.name, Ex.args] at h1 h2 h3 h4 h5
  have hk : k = 1 ∨ k = 2 ∨ k = 3 ∨ k = 4 ∨ k = 5 ∨ k = 6 ∨ k = 7 := by
    by_cases c1 : k = 1
    · omega
    by_cases c2 : k = 2
    · omega
    by_cases c3 : k = 3
    · omega
    by_cases c4 : k = 4
    · omega
    by_cases c5 : k = 5
    · omega
    by_cases c6 : k = 6
    · omega
    simp only [c1, c2, c3, c4, c5, c6, if_false] at h1
    have := of_decide_eq_true h1; omega
  rcases hk with rfl | rfl | rfl | rfl | rfl | rfl | rfl
  · simp only [Int.reduceEq, if_true, if_false, or_self, reduceIte] at h1 h2 h3 h4 h5
    have hl : l = [] := List.length_eq_zero_iff.1 (by omega)
    subst hl; subst h3; subst h5
    exact .num n (of_decide_eq_true h1)
  · simp only [Int.reduceEq, if_true, if_false, or_self, or_false, false_or, true_or, or_true, reduceIte] at h1 h2 h3 h4 h5
    have hl : l = [] := List.length_eq_zero_iff.1 (by omega)
    subst hl; subst h3; subst h4
    exact .var nm h1
  · simp only [Int.reduceEq, if_true, if_false, or_self, or_false, false_or, true_or, or_true, reduceIte] at h1 h2 h3 h4 h5
    obtain ⟨x, rfl⟩ := List.length_eq_one_iff.1 (show l.length = 1 by omega)
    subst h5; subst h4
    exact .one o x (of_decide_eq_true h1) (ha x List.mem_cons_self)
  · simp only [Int.reduceEq, if_true, if_false, or_self, or_false, false_or, true_or, or_true, reduceIte] at h1 h2 h3 h4 h5
    obtain ⟨x, y, rfl⟩ := len2 (show l.length = 2 by omega)
    subst h5; subst h4
    exact .two o x y (of_decide_eq_true h1) (ha x List.mem_cons_self) (ha y (by simp))
  · simp only [Int.reduceEq, if_true, if_false, or_self, or_false, false_or, true_or, or_true, reduceIte, Bool.and_eq_true] at h1 h2 h3 h4 h5
    subst h3; subst h4
    exact .call nm l h1.1 (by have := of_decide_eq_true h1.2; omega) ha
  · simp only [Int.reduceEq, if_true, if_false, or_self, or_false, false_or, true_or, or_true, reduceIte] at h1 h2 h3 h4 h5
    obtain ⟨x, rfl⟩ := List.length_eq_one_iff.1 (show l.length = 1 by omega)
    subst h3; subst h4
    exact .index nm x h1 (ha x List.mem_cons_self)
  · simp only [Int.reduceEq, if_true, if_false, or_self, or_false, false_or, true_or, or_true, reduceIte] at h1 h2 h3 h4 h5
    have hl : l = [] := List.length_eq_zero_iff.1 (by omega)
    subst hl; subst h3; subst h4; subst h5
    exact .read
def SOk (x : St) : Prop := ∃ m, stOk m x = true
/-- The forms of statements that may be. -/
inductive CanonS : St → Prop
  | set (nm : Bs) (x : Ex) (h : isName nm = true) (hx : wellOk x = true) : CanonS (.mk 1 nm [x] [] [])
  | store (nm : Bs) (x y : Ex) (h : isName nm = true) (hx : wellOk x = true) (hy : wellOk y = true) : CanonS (.mk 2 nm [x, y] [] [])
  | iff (x : Ex) (t e : List St) (hx : wellOk x = true) (ht : ∀ y, y ∈ t → SOk y) (he : ∀ y, y ∈ e → SOk y) : CanonS (.mk 3 [] [x] t e)
  | loop (x : Ex) (t : List St) (hx : wellOk x = true) (ht : ∀ y, y ∈ t → SOk y) : CanonS (.mk 4 [] [x] t [])
  | brk : CanonS (.mk 5 [] [] [] [])
  | cont : CanonS (.mk 6 [] [] [] [])
  | ret (x : Ex) (hx : wellOk x = true) : CanonS (.mk 7 [] [x] [] [])
  | prt (x : Ex) (hx : wellOk x = true) : CanonS (.mk 8 [] [x] [] [])
  | trp (x : Ex) (hx : wellOk x = true) : CanonS (.mk 9 [] [x] [] [])
  | call (nm : Bs) (l : List Ex) (h : isName nm = true) (hn : l.length ≤ 6) (hl : ∀ x, x ∈ l → wellOk x = true) : CanonS (.mk 10 [] [.mk 5 0 0 nm l] [] [])
theorem right_well {e : Ex} (h : rightEx e = true) : wellOk e = true := by unfold rightEx at h; exact ((Bool.and_eq_true _ _).mp h).2
theorem canonS {x : St} (h : SOk x) : CanonS x := by
  obtain ⟨k, nm, l, t, e⟩ := x
  obtain ⟨m, h⟩ := h
  cases m with
  | zero => cases h
  | succ m =>
    simp only [stOk, stBad1, stBad2, St.kind, St.args, St.thn, St.els, St.name, Bool.and_eq_true, Bool.not_eq_true', Bool.or_eq_false_iff, Bool.not_eq_false', List.all_eq_true] at h
    obtain ⟨⟨⟨⟨⟨⟨⟨⟨h1, _⟩, h3⟩, h4⟩, h5⟩, ⟨⟨h6, h7⟩, h8⟩⟩, ha⟩, ht⟩, he⟩ := h
    have ha : ∀ x, x ∈ l → wellOk x = true := fun x hx => right_well (ha x hx)
    have ht : ∀ x, x ∈ t → SOk x := fun x hx => ⟨m, ht x hx⟩
    have he : ∀ x, x ∈ e → SOk x := fun x hx => ⟨m, he x hx⟩
    have hk := of_decide_eq_true h1
    have hk : k = 1 ∨ k = 2 ∨ k = 3 ∨ k = 4 ∨ k = 5 ∨ k = 6 ∨ k = 7 ∨ k = 8 ∨ k = 9 ∨ k = 10 := by omega
    rcases hk with rfl | rfl | rfl | rfl | rfl | rfl | rfl | rfl | rfl | rfl
    all_goals
      simp [fArgs, fThen, fMore, fNamed] at h3 h4 h5 h6 h7
    · obtain ⟨x, rfl⟩ := List.length_eq_one_iff.1 (show l.length = 1 by omega)
      subst h4; subst h5
      exact .set nm x h6 (ha x List.mem_cons_self)
    · obtain ⟨x, y, rfl⟩ := len2 (show l.length = 2 by omega)
      subst h4; subst h5
      exact .store nm x y h6 (ha x List.mem_cons_self) (ha y (by simp))
    · obtain ⟨x, rfl⟩ := List.length_eq_one_iff.1 (show l.length = 1 by omega)
      subst h7
      exact .iff x t e (ha x List.mem_cons_self) ht he
    · obtain ⟨x, rfl⟩ := List.length_eq_one_iff.1 (show l.length = 1 by omega)
      subst h7; subst h5
      exact .loop x t (ha x List.mem_cons_self) ht
    · obtain rfl : l = [] := List.length_eq_zero_iff.1 (by simpa using h3)
      subst h7; subst h4; subst h5
      exact .brk
    · obtain rfl : l = [] := List.length_eq_zero_iff.1 (by simpa using h3)
      subst h7; subst h4; subst h5
      exact .cont
    · obtain ⟨x, rfl⟩ := List.length_eq_one_iff.1 (show l.length = 1 by omega)
      subst h7; subst h4; subst h5
      exact .ret x (ha x List.mem_cons_self)
    · obtain ⟨x, rfl⟩ := List.length_eq_one_iff.1 (show l.length = 1 by omega)
      subst h7; subst h4; subst h5
      exact .prt x (ha x List.mem_cons_self)
    · obtain ⟨x, rfl⟩ := List.length_eq_one_iff.1 (show l.length = 1 by omega)
      subst h7; subst h4; subst h5
      exact .trp x (ha x List.mem_cons_self)
    · obtain ⟨x, rfl⟩ := List.length_eq_one_iff.1 (show l.length = 1 by omega)
      subst h7; subst h4; subst h5
      have hx := ha x List.mem_cons_self
      have h8 : x.kind = 5 := by simpa using h8
      have hc := canon hx
      cases hc with
      | call nm l h hn hl => exact .call nm l h hn hl
      | _ => exact absurd h8 (by simp [Ex.kind])
end Go.Proofs.YtcfpfnoldgnloaaGreatDoor

namespace Go.Proofs.YtcfpfnoldgnloaaGreatDoor
theorem strOf_inj {a b : Bs} (h : strOf a = strOf b) : a = b := by
  have := congrArg (fun x : ByteArray => x.data.toList) h
  simpa [strOf] using this
mutual
def sameEx : Ex → Ex → Bool
  | .mk k o n nm us, .mk k' o' n' nm' bs => k == k' && o == o' && n == n' && nm == nm' && sameExs us bs
def sameExs : List Ex → List Ex → Bool
  | [], [] => true
  | x :: l, y :: m => sameEx x y && sameExs l m
  | _, _ => false
end
mutual
theorem sameEx_iff : ∀ a b : Ex, sameEx a b = true ↔ a = b
  | .mk k o n nm us, .mk k' o' n' nm' bs => by
    rw [sameEx]
    simp only [Bool.and_eq_true, beq_iff_eq, sameExs_iff us bs, Ex.mk.injEq]
    simp only [and_assoc]
theorem sameExs_iff : ∀ a b : List Ex, sameExs a b = true ↔ a = b
  | [], [] => by simp [sameExs]
  | x :: l, y :: m => by rw [sameExs]; simp [sameEx_iff x y, sameExs_iff l m]
  | [], y :: m => by simp [sameExs]
  | x :: l, [] => by simp [sameExs]
end
mutual
def sameSt : St → St → Bool
  | .mk k nm us t e, .mk k' nm' us' t' e' => k == k' && nm == nm' && sameExs us us' && sameSts t t' && sameSts e e'
def sameSts : List St → List St → Bool
  | [], [] => true
  | x :: l, y :: m => sameSt x y && sameSts l m
  | _, _ => false
end
mutual
theorem sameSt_iff : ∀ a b : St, sameSt a b = true ↔ a = b
  | .mk k nm us t e, .mk k' nm' us' t' e' => by
    rw [sameSt]
    simp only [Bool.and_eq_true, beq_iff_eq, sameExs_iff us us', sameSts_iff t t', sameSts_iff e e', St.mk.injEq]
    simp only [and_assoc]
theorem sameSts_iff : ∀ a b : List St, sameSts a b = true ↔ a = b
  | [], [] => by simp [sameSts]
  | x :: l, y :: m => by rw [sameSts]; simp [sameSt_iff x y, sameSts_iff l m]
  | [], y :: m => by simp [sameSts]
  | x :: l, [] => by simp [sameSts]
end
def sameBs : List Bs → List Bs → Bool
  | [], [] => true
  | x :: l, y :: m => x == y && sameBs l m
  | _, _ => false
theorem sameBs_iff : ∀ a b : List Bs, sameBs a b = true ↔ a = b
  | [], [] => by simp [sameBs]
  | x :: l, y :: m => by rw [sameBs]; simp [sameBs_iff l m]
  | [], y :: m => by simp [sameBs]
  | x :: l, [] => by simp [sameBs]
def sameFu (f g : Fu) : Bool := f.name == g.name && sameBs f.params g.params && sameBs f.locals g.locals && sameSts f.body g.body
theorem sameFu_iff (f g : Fu) : sameFu f g = true ↔ f = g := by
  obtain ⟨a, b, c, d⟩ := f; obtain ⟨a', b', c', d'⟩ := g
  unfold sameFu
  simp only [Bool.and_eq_true, beq_iff_eq, sameBs_iff, sameSts_iff, Fu.mk.injEq]
  simp only [and_assoc]
def sameFus : List Fu → List Fu → Bool
  | [], [] => true
  | x :: l, y :: m => sameFu x y && sameFus l m
  | _, _ => false
theorem sameFus_iff : ∀ a b : List Fu, sameFus a b = true ↔ a = b
  | [], [] => by simp [sameFus]
  | x :: l, y :: m => by rw [sameFus]; simp [sameFu_iff x y, sameFus_iff l m]
  | [], y :: m => by simp [sameFus]
  | x :: l, [] => by simp [sameFus]
def sameAr (a b : Ar) : Bool := a.name == b.name && a.size == b.size
theorem sameAr_iff (f g : Ar) : sameAr f g = true ↔ f = g := by
  obtain ⟨a, b⟩ := f; obtain ⟨a', b'⟩ := g
  unfold sameAr; simp
def sameArs : List Ar → List Ar → Bool
  | [], [] => true
  | x :: l, y :: m => sameAr x y && sameArs l m
  | _, _ => false
theorem sameArs_iff : ∀ a b : List Ar, sameArs a b = true ↔ a = b
  | [], [] => by simp [sameArs]
  | x :: l, y :: m => by rw [sameArs]; simp [sameAr_iff x y, sameArs_iff l m]
  | [], y :: m => by simp [sameArs]
  | x :: l, [] => by simp [sameArs]
def samePr (p q : Pr) : Bool := sameArs p.arrays q.arrays && sameFus p.funcs q.funcs
theorem samePr_iff (p q : Pr) : samePr p q = true ↔ p = q := by
  obtain ⟨a, b⟩ := p; obtain ⟨c, d⟩ := q
  unfold samePr; simp [sameArs_iff, sameFus_iff]

/-- A test of two lists, place by place: what a loop makes of it. -/
def zipAll {α : Type} (f : α → α → Bool) : List α → List α → Bool
  | [], [] => true
  | x :: l, y :: m => f x y && zipAll f l m
  | _, _ => false
theorem sameExs_zip : ∀ l m, sameExs l m = zipAll sameEx l m
  | [], [] => rfl
  | x :: l, y :: m => by rw [sameExs, zipAll, sameExs_zip l m]
  | [], y :: m => by simp [sameExs, zipAll]
  | x :: l, [] => by simp [sameExs, zipAll]
theorem sameSts_zip : ∀ l m, sameSts l m = zipAll sameSt l m
  | [], [] => rfl
  | x :: l, y :: m => by rw [sameSts, zipAll, sameSts_zip l m]
  | [], y :: m => by simp [sameSts, zipAll]
  | x :: l, [] => by simp [sameSts, zipAll]
theorem sameFus_zip : ∀ l m, sameFus l m = zipAll sameFu l m
  | [], [] => rfl
  | x :: l, y :: m => by rw [sameFus, zipAll, sameFus_zip l m]
  | [], y :: m => by simp [sameFus, zipAll]
  | x :: l, [] => by simp [sameFus, zipAll]
theorem sameArs_zip : ∀ l m, sameArs l m = zipAll sameAr l m
  | [], [] => rfl
  | x :: l, y :: m => by rw [sameArs, zipAll, sameArs_zip l m]
  | [], y :: m => by simp [sameArs, zipAll]
  | x :: l, [] => by simp [sameArs, zipAll]
theorem sameBs_zip : ∀ l m, sameBs l m = zipAll (fun x y => x == y) l m
  | [], [] => rfl
  | x :: l, y :: m => by rw [sameBs, zipAll, sameBs_zip l m]
  | [], y :: m => by simp [sameBs, zipAll]
  | x :: l, [] => by simp [sameBs, zipAll]
theorem zipAll_len {α : Type} (f : α → α → Bool) : ∀ (l m : List α), l.length ≠ m.length → zipAll f l m = false
  | [], [], h => absurd rfl h
  | x :: l, y :: m, h => by rw [zipAll, zipAll_len f l m (by simpa using h)]; simp
  | [], y :: m, _ => rfl
  | x :: l, [], _ => rfl
theorem zipAll_true {α : Type} (f : α → α → Bool) (d : α) : ∀ (l m : List α), l.length = m.length → (∀ i, i < l.length → f (l.getD i d) (m.getD i d) = true) → zipAll f l m = true
  | [], [], _, _ => rfl
  | x :: l, y :: m, h, hf => by
    have h0 : f x y = true := by have := hf 0 (by simp); simpa using this
    rw [zipAll, h0, zipAll_true f d l m (by simpa using h) (fun i hi => by have := hf (i + 1) (by simpa using hi); simpa using this)]; rfl
  | [], y :: m, h, _ => by simp at h
  | x :: l, [], h, _ => by simp at h
theorem zipAll_false {α : Type} (f : α → α → Bool) (d : α) : ∀ (l m : List α) (i : Nat), l.length = m.length → i < l.length → f (l.getD i d) (m.getD i d) = false → zipAll f l m = false
  | x :: l, y :: m, 0, _, _, hf => by rw [zipAll, show f x y = false by simpa using hf]; rfl
  | x :: l, y :: m, i + 1, h, hi, hf => by rw [zipAll, zipAll_false f d l m i (by simpa using h) (by simpa using hi) (by simpa using hf)]; simp
  | [], _, _, _, hi, _ => by simp at hi
  | x :: l, [], _, h, _, _ => by simp at h

mutual
/-- How many expressions, statements there are. -/
def exCount : Ex → Nat
  | .mk _ _ _ _ us => 1 + exsCount us
def exsCount : List Ex → Nat
  | [] => 0
  | x :: l => exCount x + exsCount l
end
mutual
def stCount : St → Nat
  | .mk _ _ us t e => 1 + exsCount us + stsCount t + stsCount e
def stsCount : List St → Nat
  | [] => 0
  | x :: l => stCount x + stsCount l
end
def fusCount : List Fu → Nat
  | [] => 0
  | x :: l => stsCount x.body + fusCount l
def prCount (p : Pr) : Nat := fusCount p.funcs
theorem exCount_eq (e : Ex) : exCount e = 1 + exsCount e.args := by cases e; rw [exCount]; rfl
theorem stCount_eq (x : St) : stCount x = 1 + exsCount x.args + stsCount x.thn + stsCount x.els := by cases x; rw [stCount]; rfl
theorem exsCount_app : ∀ l m, exsCount (l ++ m) = exsCount l + exsCount m
  | [], m => by simp [exsCount]
  | x :: l, m => by rw [List.cons_append, exsCount, exsCount, exsCount_app l m]; omega
theorem stsCount_app : ∀ l m, stsCount (l ++ m) = stsCount l + stsCount m
  | [], m => by simp [stsCount]
  | x :: l, m => by rw [List.cons_append, stsCount, stsCount, stsCount_app l m]; omega
theorem fusCount_app : ∀ l m, fusCount (l ++ m) = fusCount l + fusCount m
  | [], m => by simp [fusCount]
  | x :: l, m => by rw [List.cons_append, fusCount, fusCount, fusCount_app l m]; omega
theorem exsCount_take (l : List Ex) (d : Ex) (k : Nat) (h : k < l.length) : exsCount (l.take (k + 1)) = exsCount (l.take k) + exCount (l.getD k d) := by
  rw [List.take_succ_eq_append_getElem h, exsCount_app]; simp [exsCount, List.getElem?_eq_getElem h]
theorem stsCount_take (l : List St) (d : St) (k : Nat) (h : k < l.length) : stsCount (l.take (k + 1)) = stsCount (l.take k) + stCount (l.getD k d) := by
  rw [List.take_succ_eq_append_getElem h, stsCount_app]; simp [stsCount, List.getElem?_eq_getElem h]
theorem fusCount_take (l : List Fu) (d : Fu) (k : Nat) (h : k < l.length) : fusCount (l.take (k + 1)) = fusCount (l.take k) + stsCount (l.getD k d).body := by
  rw [List.take_succ_eq_append_getElem h, fusCount_app]; simp [fusCount, List.getElem?_eq_getElem h]
theorem exsCount_take_le (l : List Ex) (k : Nat) : exsCount (l.take k) ≤ exsCount l := by
  have := exsCount_app (l.take k) (l.drop k); rw [List.take_append_drop] at this; omega
theorem stsCount_take_le (l : List St) (k : Nat) : stsCount (l.take k) ≤ stsCount l := by
  have := stsCount_app (l.take k) (l.drop k); rw [List.take_append_drop] at this; omega
theorem fusCount_take_le (l : List Fu) (k : Nat) : fusCount (l.take k) ≤ fusCount l := by
  have := fusCount_app (l.take k) (l.drop k); rw [List.take_append_drop] at this; omega
end Go.Proofs.YtcfpfnoldgnloaaGreatDoor

namespace Go.Proofs.YtcfpfnoldgnloaaGreatDoor

theorem isName_len {l : Bs} (h : isName l = true) : l.length ≤ 20 := by
  unfold isName at h
  simp only [Bool.and_eq_true, decide_eq_true_eq] at h
  exact h.1.1.2
theorem sep_len (L : Nat) : ∀ l : List Bs, (∀ x, x ∈ l → x.length ≤ L) → (sepText l).length ≤ l.length * (L + 2)
  | [], _ => by simp [sepText]
  | x :: l, h => by
    have more : ∀ m : List Bs, (∀ x, x ∈ m → x.length ≤ L) → (m.flatMap (fun y => [44, 32] ++ y)).length ≤ m.length * (L + 2) := by
      intro m
      induction m with
      | nil => intro _; simp
      | cons y m ih =>
        intro hm
        have h1 := hm y List.mem_cons_self
        have h2 := ih (fun z hz => hm z (List.mem_cons_of_mem _ hz))
        simp only [List.flatMap_cons, List.length_append, List.length_cons, List.length_nil] at h2 ⊢
        rw [Nat.add_mul]; omega
    have h1 := h x List.mem_cons_self
    have h2 := more l (fun z hz => h z (List.mem_cons_of_mem _ hz))
    rw [sepText, List.length_append, List.length_cons, Nat.add_mul]; omega
theorem wrap_len (e : Ex) (lev : Int) (t : Bs) : (wrapPart e lev t).length ≤ t.length + 2 := by
  unfold wrapPart; split
  · simp
  · omega
theorem sign_len_ops : ∀ i : Fin 20, (signOf i.val).length ≤ 2 := by decide +kernel
theorem sign_len (o : Int) : (signOf o).length ≤ 2 := by
  by_cases h : 0 ≤ o ∧ o ≤ 19
  · have e1 : ((o.toNat : Nat) : Int) = o := Int.toNat_of_nonneg (by omega)
    have := sign_len_ops ⟨o.toNat, by omega⟩
    simp only [e1] at this; exact this
  · unfold signOf
    rw [if_neg (by omega), if_neg (by omega), if_neg (by omega), if_neg (by omega), if_neg (by omega), if_neg (by omega), if_neg (by omega), if_neg (by omega), if_neg (by omega), if_neg (by omega), if_neg (by omega), if_neg (by omega), if_neg (by omega), if_neg (by omega), if_neg (by omega), if_neg (by omega), if_neg (by omega), if_neg (by omega), if_neg (by omega)]
    exact Nat.zero_le _
theorem ex1_len (n : Int) (h : 0 ≤ n ∧ n ≤ 9223372036854775807) (o : Int) (nm : Bs) (l : List Ex) : (exText (.mk 1 o n nm l)).length ≤ 21 := by
  rw [exText_1]; exact Lib.itoa_length_le n (by omega) h.2
theorem call_len {L : Nat} {nm : Bs} {l : List Ex} (hn : nm.length ≤ 20) (h6 : l.length ≤ 6) (hl : ∀ x, x ∈ l → (exText x).length ≤ L) : (exText (.mk 5 0 0 nm l)).length ≤ 6 * L + 64 := by
  rw [exText_5]
  have := sep_len L (l.map exText) (fun x hx => by
    obtain ⟨y, hy, rfl⟩ := List.mem_map.1 hx
    exact hl y hy)
  simp only [List.length_map, List.length_append, List.length_cons, List.length_nil] at this ⊢
  have : l.length * (L + 2) ≤ 6 * (L + 2) := Nat.mul_le_mul_right _ h6
  omega
theorem gCall_len {sc : Sc} (hs : sc.Ok) (raw : List Int) (g : Nat → Ex × Nat) (L : Nat) (hg : ∀ a, (exText (g a).1).length ≤ L) (a : Nat) : (exText (gCall sc raw g a).1).length ≤ 6 * L + 64 := by
  unfold gCall
  split
  · have h7 := gNext_range raw (gNext raw a 312).2 7 (by decide)
    exact call_len (isName_len (varOf_name _)) (by rw [gMany_len]; omega) (gMany_all g (fun x => (exText x).length ≤ L) hg _ _)
  · rename_i hn
    have hl := gpos hn
    have hr := gNext_range raw a sc.funcs.length (by omega)
    have hf : isName (fuAt sc.funcs (gNext raw a sc.funcs.length).1.toNat).name = true ∧ (fuAt sc.funcs (gNext raw a sc.funcs.length).1.toNat).params.length ≤ 6 := hs.funcs _ (gmem (d := Fu.nil) (i := (gNext raw a sc.funcs.length).1.toNat) (by omega))
    dsimp only
    generalize fuAt sc.funcs (gNext raw a sc.funcs.length).1.toNat = f at hf ⊢
    exact call_len (isName_len hf.1) (by rw [gMany_len]; exact hf.2) (gMany_all g (fun x => (exText x).length ≤ L) hg _ _)
theorem gKind_len {sc : Sc} (hs : sc.Ok) (raw : List Int) (g : Nat → Ex × Nat) (L : Nat) (hg : ∀ a, (exText (g a).1).length ≤ L) (k : Int) (a : Nat) : (exText (gKind sc raw g k a).1).length ≤ 6 * L + 64 := by
  unfold gKind
  split
  · have := isName_len (gName_ok hs raw a)
    dsimp only; rw [exText_2]; omega
  split
  · dsimp only; rw [exText_7]; simp
  split
  · have h1 := gNext_range raw (if k = 3 then (gNext raw a 3).2 else a) 1000 (by decide)
    have h2 := numOf_range _ (gNext raw (gNext raw (if k = 3 then (gNext raw a 3).2 else a) 1000).2 8).1 h1
    have := ex1_len _ h2 0 [] []
    dsimp only; omega
  split
  · have := hg (gNext raw a 3).2
    dsimp only; rw [exText_3 _ _ _ _ (by simp)]
    have h2 := sign_len (17 + (gNext raw a 3).1)
    have h3 := wrap_len (g (gNext raw a 3).2).1 9 (exText (g (gNext raw a 3).2).1)
    show (signOf _ ++ wrapPart (g (gNext raw a 3).2).1 9 (exText (g (gNext raw a 3).2).1)).length ≤ _
    rw [List.length_append]; omega
  split
  · have h1 := isName_len (gArray_ok hs raw a)
    have h2 := hg (gArray sc.free sc.arrays raw a).2
    dsimp only; rw [exText_6 _ _ _ _ (by simp)]
    show (_ ++ [91] ++ exText (g (gArray sc.free sc.arrays raw a).2).1 ++ [93]).length ≤ _
    simp only [List.length_append, List.length_cons, List.length_nil]; omega
  split
  · exact gCall_len hs raw g L hg a
  · dsimp only; rw [exText_4 _ _ _ _ (by simp)]
    have h1 := hg (gNext raw a 16).2
    have h2 := hg (g (gNext raw a 16).2).2
    have h3 := sign_len (1 + (gNext raw a 16).1)
    have h4 := wrap_len (g (gNext raw a 16).2).1 (levelOf (1 + (gNext raw a 16).1)) (exText (g (gNext raw a 16).2).1)
    have h5 := wrap_len (g (g (gNext raw a 16).2).2).1 (levelOf (1 + (gNext raw a 16).1) + 1) (exText (g (g (gNext raw a 16).2).2).1)
    show (wrapPart (g (gNext raw a 16).2).1 (levelOf (1 + (gNext raw a 16).1)) (exText (g (gNext raw a 16).2).1) ++ ([32] ++ (signOf _ ++ [32])) ++ wrapPart (g (g (gNext raw a 16).2).2).1 (levelOf (1 + (gNext raw a 16).1) + 1) (exText (g (g (gNext raw a 16).2).2).1)).length ≤ _
    simp only [List.length_append, List.length_cons, List.length_nil]; omega
def exB : Nat → Nat
  | 0 => 64
  | d + 1 => 6 * exB d + 64
theorem gExpr_len {sc : Sc} (hs : sc.Ok) (raw : List Int) : ∀ d a, (exText (gExpr sc raw d a).1).length ≤ exB d
  | 0, a => by
    rw [gExpr]; unfold gStep
    have := gKind_len hs raw (fun a => (Ex.nil, a)) 0 (fun a => by show (exText (.mk 0 0 0 [] [])).length ≤ 0; rw [exText_eq]; decide) (gK raw 0 a) (gNext raw a 12).2
    simp only [exB]; omega
  | d + 1, a => by
    rw [gExpr]; unfold gStep
    exact gKind_len hs raw _ (exB d) (gExpr_len hs raw d) _ _
theorem tabs_len (t : Nat) : (tabsOf t).length = t := List.length_replicate
theorem ln_len (t : Nat) (l : List Bs) : (ln t l).length = t + l.flatten.length + 1 := by unfold ln; rw [List.length_append, List.length_append, tabs_len]; rfl
/-- A statement's own lines, and what is in it. -/
theorem st_len {t N L T E : Nat} {k : Int} {nm : Bs} {args : List Ex} {thn els : List St} (hn : nm.length ≤ N) (ha : ∀ x, x ∈ args → (exText x).length ≤ L) (hT : (stsText (t + 1) thn).length ≤ T) (hE : (stsText (t + 1) els).length ≤ E) : (stText t (.mk k nm args thn els)).length ≤ 3 * t + N + 2 * L + T + E + 40 := by
  have hx : ∀ i, (exText (exAt args i)).length ≤ L := fun i => by
    unfold exAt
    rcases Nat.lt_or_ge i args.length with h | h
    · rw [List.getD_eq_getElem?_getD, List.getElem?_eq_getElem h]; exact ha _ (List.getElem_mem h)
    · rw [List.getD_eq_getElem?_getD, List.getElem?_eq_none h]
      show (exText (.mk 0 0 0 [] [])).length ≤ L
      rw [exText_eq]; exact Nat.zero_le _
  have h0 := hx 0
  have h1 := hx 1
  rw [stText_eq]
  unfold stShape
  repeat' split
  all_goals
    try simp only [ln_len, List.length_append, List.flatten_cons, List.flatten_nil, List.length_cons, List.length_nil]
    try omega
theorem sts_len {t B : Nat} : ∀ l : List St, (∀ x, x ∈ l → (stText t x).length ≤ B) → (stsText t l).length ≤ l.length * B
  | [], _ => by simp [stsText]
  | x :: l, h => by
    have h1 := h x List.mem_cons_self
    have h2 := sts_len l (fun z hz => h z (List.mem_cons_of_mem _ hz))
    rw [stsText, List.length_append, List.length_cons, Nat.add_mul]; omega
theorem gStHead_len {sc : Sc} (hs : sc.Ok) (raw : List Int) (gs gl : Nat → List St × Nat) (T : Nat) (t : Nat) (hgs : ∀ a, (stsText (t + 1) (gs a).1).length ≤ T) (hgl : ∀ a, (stsText (t + 1) (gl a).1).length ≤ T) (k : Int) (a : Nat) :
    ∃ k' nm args thn els, (gStHead sc raw gs gl k a).1 = .mk k' nm args thn els ∧ nm.length ≤ 20 ∧ (∀ x, x ∈ args → (exText x).length ≤ exB 3) ∧ (stsText (t + 1) thn).length ≤ T ∧ (stsText (t + 1) els).length ≤ T := by
  have z : (stsText (t + 1) []).length ≤ T := Nat.zero_le _
  have nn : ∀ x : Ex, x ∈ ([] : List Ex) → (exText x).length ≤ exB 3 := fun x hx => by cases hx
  have n0 : ([] : Bs).length ≤ 20 := Nat.zero_le _
  have ee : ∀ a, ∀ x, x ∈ [(gExpr sc raw 3 a).1] → (exText x).length ≤ exB 3 := fun a x hx => by rw [List.mem_singleton.1 hx]; exact gExpr_len hs raw 3 a
  unfold gStHead
  split
  · exact ⟨_, _, _, _, _, rfl, isName_len (gName_ok hs raw a), nn, z, z⟩
  split
  · exact ⟨_, _, _, _, _, rfl, isName_len (gArray_ok hs raw a), ee _, z, z⟩
  split
  · exact ⟨_, _, _, _, _, rfl, n0, fun x hx => by rw [List.mem_singleton.1 hx]; exact gCall_len hs raw _ (exB 2) (gExpr_len hs raw 2) a, z, z⟩
  split
  · exact ⟨_, _, _, _, _, rfl, n0, nn, z, z⟩
  split
  · exact ⟨_, _, _, _, _, rfl, n0, ee _, hgs _, hgs _⟩
  split
  · exact ⟨_, _, _, _, _, rfl, n0, ee _, hgl _, z⟩
  split
  · exact ⟨_, _, _, _, _, rfl, n0, nn, z, z⟩
  · exact ⟨_, _, _, _, _, rfl, n0, nn, z, z⟩
theorem gSt_len {sc : Sc} (hs : sc.Ok) (raw : List Int) (gs gl : Nat → List St × Nat) (T : Nat) (t d : Nat) (hgs : ∀ a, (stsText (t + 1) (gs a).1).length ≤ T) (hgl : ∀ a, (stsText (t + 1) (gl a).1).length ≤ T) (a : Nat) : (stText t (gSt sc raw gs gl d a).1).length ≤ 3 * t + 2 * exB 4 + 2 * T + 60 := by
  unfold gSt
  dsimp only
  obtain ⟨k, nm, args, thn, els, h, h1, h2, h3, h4⟩ := gStHead_len hs raw gs gl T t hgs hgl (gStK raw d a) (gNext raw a 14).2
  generalize (gStHead sc raw gs gl (gStK raw d a) (gNext raw a 14).2).2 = b
  rw [h]
  have h2 : ∀ x, x ∈ args → (exText x).length ≤ exB 4 := fun x hx => Nat.le_trans (h2 x hx) (by decide)
  unfold gFill
  split
  · have := st_len (k := k) (N := 20) (L := exB 4) h1 (args := args ++ [(gExpr sc raw 4 b).1]) (fun x hx => by
      rcases List.mem_append.1 hx with hx | hx
      · exact h2 x hx
      · rw [List.mem_singleton.1 hx]; exact gExpr_len hs raw 4 b) h3 h4
    show (stText t (.mk k nm (args ++ [(gExpr sc raw 4 b).1]) thn els)).length ≤ _
    omega
  · have := st_len (k := k) (N := 20) (L := exB 4) h1 h2 h3 h4
    show (stText t (.mk k nm args thn els)).length ≤ _
    omega
def stB : Nat → Nat
  | 0 => 4 * (2 * exB 4 + 100)
  | d + 1 => 4 * (2 * exB 4 + 2 * stB d + 100)
theorem gStsN_all' (one : Nat → St × Nat) (P : St → Prop) (hg : ∀ a, P (one a).1) (c a : Nat) : ∀ x, x ∈ (gStsN one c a).1 → P x := gStsN_all one P hg c a
theorem five (raw : List Int) (a : Nat) : (gNext raw a 5).1.toNat ≤ 4 := by have := gNext_range raw a 5 (by decide); omega
theorem gStmts_len (raw : List Int) : ∀ (d t : Nat) (sc : Sc), sc.Ok → t + d ≤ 10 → ∀ a, (stsText t (gStmts raw d sc a).1).length ≤ stB d
  | 0, t, sc, hs, ht, a => by
    rw [gStmts]
    have h1 := sts_len (t := t) (B := 2 * exB 4 + 100) _ (gStsN_all' _ (fun x => (stText t x).length ≤ 2 * exB 4 + 100) (fun b => Nat.le_trans (gSt_len hs raw (fun a => ([], a)) (fun a => ([], a)) 0 t 0 (fun _ => Nat.le_refl _) (fun _ => Nat.le_refl _) b) (by omega)) (gNext raw a 5).1.toNat (gNext raw a 5).2)
    rw [gStsN_len] at h1
    exact Nat.le_trans h1 (Nat.mul_le_mul_right _ (five raw a))
  | d + 1, t, sc, hs, ht, a => by
    rw [gStmts]
    have h1 := sts_len (t := t) (B := 2 * exB 4 + 2 * stB d + 100) _ (gStsN_all' _ (fun x => (stText t x).length ≤ 2 * exB 4 + 2 * stB d + 100) (fun b => Nat.le_trans (gSt_len hs raw (gStmts raw d sc) (gStmts raw d sc.inLoop) (stB d) t (d + 1) (gStmts_len raw d (t + 1) sc hs (by omega)) (gStmts_len raw d (t + 1) sc.inLoop hs.inLoop (by omega)) b) (by omega)) (gNext raw a 5).1.toNat (gNext raw a 5).2)
    rw [gStsN_len] at h1
    exact Nat.le_trans h1 (Nat.mul_le_mul_right _ (five raw a))
end Go.Proofs.YtcfpfnoldgnloaaGreatDoor
