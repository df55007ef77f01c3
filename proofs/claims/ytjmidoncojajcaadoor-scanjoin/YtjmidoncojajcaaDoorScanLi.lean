/-
  Lines, kinds and texts of the tokens that Scan answers. No condition.
-/
import Derived.Test.YtjmidoncojajcaaDoorScanG
set_option linter.unusedVariables false
set_option linter.unusedSimpArgs false
namespace Go.Proofs.YtjmidoncojajcaaDoor
open Go.RowKit
set_option maxHeartbeats 4000000
set_option maxRecDepth 100000

/-- The line behind k tokens. -/
def zlines (g : Nat → Bs × List (Bs × Bs)) (line : Nat) : Nat → Nat
  | 0 => line
  | k + 1 => zlines g line k + feeds (gapText (g k).1 (g k).2)
def zt (g : Nat → Bs × List (Bs × Bs)) (raw : List (Int × Int)) (line i : Nat) : Tk := ⟨(zw raw i).2.1, (zw raw i).1, (zw raw i).2.2, (zlines g line i : Nat)⟩
theorem toks_app : ∀ (a b : List It) (line : Nat), toks line (a ++ b) = toks line a ++ toks (endL line a) b
  | [], _, _ => rfl
  | i :: a, b, line => by simp [toks, endL, toks_app a b]
theorem endL_app : ∀ (a b : List It) (line : Nat), endL line (a ++ b) = endL (endL line a) b
  | [], _, _ => rfl
  | i :: a, b, line => by simp [endL, endL_app a b]
theorem zits_toks (g : Nat → Bs × List (Bs × Bs)) (raw : List (Int × Int)) (line : Nat) : ∀ m, toks line (zitsOf g raw m) = (List.range m).map (zt g raw line) ∧ endL line (zitsOf g raw m) = zlines g line m
  | 0 => ⟨rfl, rfl⟩
  | m + 1 => by
    obtain ⟨h1, h2⟩ := zits_toks g raw line m
    rw [zits_succ, toks_app, endL_app, h1, h2, List.range_succ, List.map_append]
    exact ⟨rfl, rfl⟩
theorem zall_map (b0 : Bs) (l0 : List (Bs × Bs)) (g : Nat → Bs × List (Bs × Bs)) (raw : List (Int × Int)) (m : Nat) :
    zall b0 l0 (zitsOf g raw m) = (List.range m).map (zt g raw (1 + feeds (gapText b0 l0))) ++ [⟨5, [], 0, (zlines g (1 + feeds (gapText b0 l0)) m : Nat)⟩] := by
  unfold zall
  obtain ⟨h1, h2⟩ := zits_toks g raw (1 + feeds (gapText b0 l0)) m
  rw [h1, h2]
theorem map_at (f : Nat → Tk) (z : Tk) (m i : Nat) : tkAt ((List.range m).map f ++ [z]) i = if i < m then f i else if i = m then z else ⟨0, [], 0, 0⟩ := by
  unfold tkAt
  rw [List.getD_eq_getElem?_getD, List.getElem?_append, List.length_map, List.length_range]
  by_cases h : i < m
  · rw [if_pos h, if_pos h, List.getElem?_map, List.getElem?_range h]; rfl
  · rw [if_neg h, if_neg h]
    by_cases h2 : i = m
    · rw [if_pos h2, h2, Nat.sub_self]; rfl
    · rw [if_neg h2, List.getElem?_eq_none (by simp; omega)]; rfl
theorem zall_at (b0 : Bs) (l0 : List (Bs × Bs)) (g : Nat → Bs × List (Bs × Bs)) (raw : List (Int × Int)) (m i : Nat) (h : i < m) : tkAt (zall b0 l0 (zitsOf g raw m)) i = zt g raw (1 + feeds (gapText b0 l0)) i := by
  rw [zall_map, map_at, if_pos h]
theorem zall_end (b0 : Bs) (l0 : List (Bs × Bs)) (g : Nat → Bs × List (Bs × Bs)) (raw : List (Int × Int)) (m : Nat) : tkAt (zall b0 l0 (zitsOf g raw m)) m = ⟨5, [], 0, (zlines g (1 + feeds (gapText b0 l0)) m : Nat)⟩ := by
  rw [zall_map, map_at, if_neg (by omega), if_pos rfl]
theorem zlines_const (line : Nat) : ∀ k, zlines (fun _ => ([32], [])) line k = line
  | 0 => rfl
  | k + 1 => by
    have e : feeds (gapText [32] []) = 0 := by decide
    show zlines _ line k + feeds (gapText [32] []) = line
    rw [zlines_const line k, e, Nat.add_zero]
theorem zlines_add (g : Nat → Bs × List (Bs × Bs)) (line d : Nat) : ∀ k, zlines g (line + d) k = zlines g line k + d
  | 0 => rfl
  | k + 1 => by
    show zlines g (line + d) k + _ = zlines g line k + _ + d
    rw [zlines_add g line d k]; omega
theorem zlike (b0 : Bs) (l0 : List (Bs × Bs)) (g g' : Nat → Bs × List (Bs × Bs)) (raw : List (Int × Int)) (m : Nat) : LikeTks false (zall [] [] (zitsOf g raw m)) (zall b0 l0 (zitsOf g' raw m)) := by
  refine ⟨by rw [zall_len, zall_len, zits_count, zits_count], fun i hi => ?_⟩
  rw [zall_len, zits_count] at hi
  by_cases h : i < m
  · rw [zall_at _ _ _ _ _ _ h, zall_at _ _ _ _ _ _ h]; exact ⟨rfl, rfl, rfl, fun h => (by cases h)⟩
  · have e : i = m := by omega
    subst e
    rw [zall_end, zall_end]; exact ⟨rfl, rfl, rfl, fun h => (by cases h)⟩
/-- A token has no line feed. -/
theorem letter_no {x : Bs} (h : ∀ c, c ∈ x → c.toNat < 128 ∧ wordR (c.toNat : Nat) = true) : (10 : UInt8) ∉ x := fun hm => by
  have := (h 10 hm).2
  revert this; decide
theorem PcOk.noFeed {x : Bs} {k n : Int} (h : PcOk x k n) (hq : k ≠ 3) : feeds x = 0 := by
  apply feeds_no
  cases h with
  | name x hx hk c t hc hl ha => exact letter_no ha
  | word x hk c t hc hl ha => exact letter_no ha
  | num u hu hi c t hc hd => exact absurd rfl hq
  | quote q y => exact absurd rfl hq
  | sign x hs c t hc h7 hn =>
    rcases sign_cases hs with rfl | rfl | rfl | rfl | rfl | rfl | rfl | rfl | rfl | rfl | rfl | rfl | rfl | rfl | rfl | rfl | rfl | rfl | rfl | rfl | rfl | rfl | rfl | rfl | rfl | rfl | rfl <;> decide
theorem rune_noFeed (r : Nat) (h0 : 161 ≤ r) (h1 : r < 9000) : (10 : UInt8) ∉ zrune r := by
  have key : ∀ n, 128 ≤ n → n < 256 → (10 : UInt8) ≠ UInt8.ofNat n := fun n h1 h2 e => by
    have := congrArg UInt8.toNat e
    rw [ofNat_toNat8 n h2] at this
    have h10 : (10 : UInt8).toNat = 10 := rfl
    omega
  by_cases h : r < 2048
  · rw [zrune_two r h0 h]
    intro hm
    simp only [List.mem_cons, List.not_mem_nil, or_false] at hm
    rcases hm with hm | hm
    · exact key _ (by omega) (by omega) hm
    · exact key _ (by omega) (by omega) hm
  · rw [zrune_three r (by omega) h1]
    intro hm
    simp only [List.mem_cons, List.not_mem_nil, or_false] at hm
    rcases hm with hm | hm | hm
    · exact key _ (by omega) (by omega) hm
    · exact key _ (by omega) (by omega) hm
    · exact key _ (by omega) (by omega) hm
theorem zword_noFeed (n c : Int) : feeds (zword n c).1 = 0 := by
  by_cases hk : (zword n c).2.1 = 3
  · obtain ⟨k, hkk, e⟩ := zpick_nat n 44 (by decide)
    have e' : zpick n 44 = k := e
    revert hk
    unfold zword
    rw [e', Int.toNat_natCast]
    dsimp only
    by_cases h1 : k < 10
    · rw [if_pos h1]; intro h; exact absurd (show (2 : Int) = 3 from h) (by decide)
    · rw [if_neg h1]
      by_cases h2 : k < 37
      · rw [if_pos h2]; intro h; exact absurd (show (4 : Int) = 3 from h) (by decide)
      · rw [if_neg h2]
        by_cases h3 : k < 40
        · rw [if_pos h3]
          intro _
          refine feeds_no _ (fun hm => ?_)
          have := digit_mem _ _ hm
          revert this; decide
        · rw [if_neg h3]
          by_cases h4 : k = 40
          · rw [if_pos h4]
            intro _
            obtain ⟨u, hu, eu⟩ := zpick_nat c 8192 (by decide)
            have eu' : zpick c 8192 = u := eu
            rw [eu', Int.toNat_natCast]
            refine feeds_no _ (fun hm => ?_)
            have h5 := rune_noFeed (161 + u) (by omega) (by omega)
            simp only [List.mem_cons, List.mem_append, List.not_mem_nil, or_false] at hm
            rcases hm with hm | hm | hm
            · revert hm; decide
            · exact h5 hm
            · revert hm; decide
          · rw [if_neg h4]; intro h; exact absurd (show (1 : Int) = 3 from h) (by decide)
  · exact (zword_ok n c).1.noFeed hk
/-- A text's line feeds are its gaps'. -/
theorem zits_feeds (g : Nat → Bs × List (Bs × Bs)) (raw : List (Int × Int)) (line : Nat) : ∀ m, line + feeds (itText (zitsOf g raw m)) = zlines g line m
  | 0 => by simp [zitsOf, itText, feeds, zlines]
  | m + 1 => by
    have h := zits_feeds g raw line m
    have e : feeds (zw raw m).1 = 0 := zword_noFeed _ _
    rw [zits_text, feeds_app, feeds_app, e]
    show _ = zlines g line m + _
    omega
/-- What kinds there are, and what they are of. -/
theorem PcOk.kinds {x : Bs} {k n : Int} (h : PcOk x k n) : (k = 1 ∧ isName x = true) ∨ (k = 2 ∧ isWord x = true) ∨ k = 3 ∨ k = 4 := by
  cases h with
  | name x hx hk c t hc hl ha => exact .inl ⟨rfl, hx⟩
  | word x hk c t hc hl ha => exact .inr (.inl ⟨rfl, hk⟩)
  | num u hu hi c t hc hd => exact .inr (.inr (.inl rfl))
  | quote q y => exact .inr (.inr (.inl rfl))
  | sign x hs c t hc h7 hn => exact .inr (.inr (.inr rfl))
end Go.Proofs.YtjmidoncojajcaaDoor
