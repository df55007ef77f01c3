/-
  A token with no blank behind it: what may stand there, or the text's end. Condition: PcOk says which token.
-/
import Derived.Test.YtcfpfnoldgnloaaGreatDoorScanG
set_option linter.unusedVariables false
set_option linter.unusedSimpArgs false
namespace Go.Proofs.YtcfpfnoldgnloaaGreatDoor
open Go.RowKit
set_option maxHeartbeats 4000000
set_option maxRecDepth 100000

theorem signE_any (a : Bs) (ha : isSign a = true) (hl : a.length = 1) (w : World) :
    Calls Tryz.prog 94 #[.string (strOf a)] w fun e w' => e = .returned (.tuple #[tokV 4 a 0 0, .bool true]) ∧ Below w.heap.size w w' := by
  have hx1 : (strOf a).extract 0 1 = strOf a := by
    have := ext_take a []
    rw [hl, List.append_nil] at this
    exact this
  have hz1 : a.length = 1 := hl
  have hm : min (2 : Int) (a.length : Int) = 1 := by omega
  have hzI : (a.length : Int) = 1 := by omega
  rcases sign_cases ha with rfl | rfl | rfl | rfl | rfl | rfl | rfl | rfl | rfl | rfl | rfl | rfl | rfl | rfl | rfl | rfl | rfl | rfl | rfl | rfl | rfl | rfl | rfl | rfl | rfl | rfl | rfl
  iterate 6 (simp at hl)
  all_goals
    clear ha hl hz1 hzI hm
    have hm : min (2 : Int) 1 = 1 := by decide
    go_enter Tryz.func94, Tryz.ntmps94
    go_wp2_with fail
    refine wp_loop_rounds 1 ?_
    rw [rounds_succ]
    go_wp2_with fail
    exact bodyPost_ret (v := .tuple #[tokV 4 _ 0 0, .bool true]) (by simp [results, Tryz.results94, go_sem, tokV]) rfl ⟨rfl, (Below.refl _ _).alloc (Nat.le_refl _) _⟩

/-- May this stand behind a token of kind k? -/
def sepB (k : Int) : Bs → Bool
  | [] => true
  | c :: _ => decide (c.toNat < 128) && (if k = 4 then !(c == 61) && !(c == 60) && !(c == 62) && !(c == 47) else if k = 3 then !(digitR (c.toNat : Nat)) else !(wordR (c.toNat : Nat)))
theorem PcOk.noComm {x : Bs} {k n : Int} (h : PcOk x k n) {r : Bs} (hs : sepB k r = true) : Lib.hasPrefix (x ++ r) [47, 47] = false := by
  have key : ∀ (c : UInt8) (t : Bs), c ≠ 47 → Lib.hasPrefix (c :: t) [47, 47] = false := fun c t hc => by
    have h1 : ((47 : UInt8) == c) = false := by rw [beq_eq_false_iff_ne]; exact fun e => hc e.symm
    show ([47, 47] : List UInt8).isPrefixOf (c :: t) = false
    rw [List.isPrefixOf, h1]; rfl
  cases h with
  | name x hx hk c t hc hl ha => rw [hc, List.cons_append]; exact key _ _ (by rintro rfl; simp [isLetter] at hl)
  | word x hk c t hc hl ha => rw [hc, List.cons_append]; exact key _ _ (by rintro rfl; simp [isLetter] at hl)
  | num u hu hi c t hc hd => rw [hc, List.cons_append]; exact key _ _ (by rintro rfl; simp [isDigit] at hd)
  | quote q y => exact key 39 (y ++ [39] ++ r) (by decide)
  | sign x hs' c t hc h7 hn =>
    have key2 : Lib.hasPrefix ([47] ++ r) [47, 47] = false := by
      cases r with
      | nil => rfl
      | cons b r =>
        have hne : b ≠ 47 := by rintro rfl; simp [sepB] at hs
        have h1 : ((47 : UInt8) == b) = false := by rw [beq_eq_false_iff_ne]; exact fun e => hne e.symm
        show ([47, 47] : List UInt8).isPrefixOf (47 :: b :: r) = false
        rw [List.isPrefixOf, List.isPrefixOf, h1]; rfl
    rcases sign_cases hs' with rfl | rfl | rfl | rfl | rfl | rfl | rfl | rfl | rfl | rfl | rfl | rfl | rfl | rfl | rfl | rfl | rfl | rfl | rfl | rfl | rfl | rfl | rfl | rfl | rfl | rfl | rfl <;> first | exact key2 | (rw [List.cons_append]; exact key _ _ (by decide))
theorem tokAt_of {x : Bs} {k n : Int} (h : PcOk x k n) (hq : k = 3 → ∀ r, x ≠ 39 :: r) {r : Bs} (hs : sepB k r = true) : TokAt x k n r := by
  refine ⟨h.ends _, h.noComm hs, h.ne, fun w hz hl => ?_⟩
  have hw : k = 1 ∨ k = 2 → EndsAt wordR r := by
    intro hk
    cases r with
    | nil => exact .inl rfl
    | cons c r =>
      rcases hk with rfl | rfl <;> simp [sepB] at hs <;> exact .inr ⟨c, r, rfl, hs.1, hs.2⟩
  have hd : k = 3 → EndsAt digitR r := by
    rintro rfl
    cases r with
    | nil => exact .inl rfl
    | cons c r => simp [sepB] at hs; exact .inr ⟨c, r, rfl, hs.1, hs.2⟩
  cases h with
  | name x hx hk c t hc hll ha =>
    have hT := fun w1 (_ : Below w.heap.size w w1) => wordT_any x r ha (hw (.inl rfl)) hk hx w1
    rw [hc] at hT ⊢
    exact token_word c (t ++ r) hll (letter_lt hll) 1 (c :: t) 0 w hT
  | word x hk c t hc hll ha =>
    have hT := fun w1 (_ : Below w.heap.size w w1) => wordW_any x r ha (hw (.inr rfl)) hk w1
    rw [hc] at hT ⊢
    exact token_word c (t ++ r) hll (letter_lt hll) 2 (c :: t) 0 w hT
  | num u hu hi c t hc hdd =>
    have hT := fun w1 (hb1 : Below w.heap.size w w1) => numberT_any u r hu hi (hd rfl) w1 (hl.old hb1).lt (hl.old hb1).pow
    rw [hc] at hT ⊢
    exact token_number c (t ++ r) hdd (digit_lt hdd) 3 (c :: t) u w hT
  | quote q y hr1 hr2 hr3 hr4 hr5 hx hdq => exact absurd rfl (hq rfl (y ++ [39]))
  | sign x hs' c t hc h7 hn =>
    cases r with
    | nil =>
      rw [List.append_nil] at hz ⊢
      by_cases h1 : x.length = 1
      · have hT := fun w1 (_ : Below w.heap.size w w1) => signE_any x hs' h1 w1
        rw [hc] at hT ⊢
        exact token_sign c t hn h7 4 (c :: t) 0 w hT
      · have hT := fun w1 (_ : Below w.heap.size w w1) => signT_any x [] hs' (fun e => absurd e h1) w1
        rw [List.append_nil] at hT
        rw [hc] at hT ⊢
        exact token_sign c t hn h7 4 (c :: t) 0 w hT
    | cons b r =>
      have hT := fun w1 (_ : Below w.heap.size w w1) => signT_any x (b :: r) hs' (fun _ => ⟨b, r, rfl, by simp [sepB] at hs; simp [hs], by simp [sepB] at hs; simp [hs], by simp [sepB] at hs; simp [hs]⟩) w1
      rw [hc] at hT ⊢
      exact token_sign c (t ++ b :: r) hn h7 4 (c :: t) 0 w hT
/-- A list of tokens whose neighbours may stand there. -/
theorem ItsOk.of_sep (z : Bs) : ∀ (l : List It), (∀ i, i ∈ l → PcOk i.x i.k i.n ∧ (i.k = 3 → ∀ r, i.x ≠ 39 :: r) ∧ GapOk i.b i.l) → (∀ i r, (i :: r) <:+ l → sepB i.k (i.gap ++ (itText r ++ z)) = true) → ItsOk z l
  | [], _, _ => trivial
  | i :: l, h, hs => ⟨tokAt_of (h i List.mem_cons_self).1 (h i List.mem_cons_self).2.1 (hs i l (List.suffix_refl _)), (h i List.mem_cons_self).2.2, ItsOk.of_sep z l (fun j hj => h j (List.mem_cons_of_mem _ hj)) (fun j r hr => hs j r (hr.trans (List.suffix_cons _ _)))⟩
end Go.Proofs.YtcfpfnoldgnloaaGreatDoor
