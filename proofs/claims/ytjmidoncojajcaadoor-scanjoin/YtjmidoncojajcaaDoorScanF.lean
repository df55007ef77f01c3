/-
  Rows in blocks of their own, as appends make them; what stays. No condition.
  What the scanner's laws draw is what Scan takes: tokens, blanks. No condition.
  pick, num, Var: what the laws draw. Conditions: the numbers are ints.
  num: a number in decimal. Condition: it is no greater than 2^40.
-/
import Derived.Test.YtjmidoncojajcaaDoorScanA
import Derived.Test.YtjmidoncojajcaaDoorTreeA
import Derived.Test.YtjmidoncojajcaaDoorScanE
import Derived.Test.YtjmidoncojajcaaDoorScanC
import Derived.IntWalk
set_option linter.unusedVariables false
set_option linter.unusedSimpArgs false
namespace Go.Proofs.YtjmidoncojajcaaDoor
open Go.RowKit
set_option maxHeartbeats 4000000
set_option maxRecDepth 100000

theorem ZInfoInt : (Tryd.prog.info? 3).map (fun i => (i.zero, i.size, i.bytes)) = some (some (.int .i64 0), 1, 8) := by kernel_rfl
theorem ZInfoStr : (Tryd.prog.info? 9).map (fun i => (i.zero, i.size, i.bytes)) = some (some (.string ⟨#[]⟩), 1, 16) := by kernel_rfl
theorem zrow_old {w w' : World} {base size n : Nat} {e : TypeId} {v : Value} {xs : List Value} (h : w.ownsRow base e size v n xs) (hb : Below w.heap.size w w') : w'.ownsRow base e size v n xs := by
  refine ⟨h.1, ?_⟩
  rcases h.2 with hn | ⟨g, cap, cur, rfl, hg, hh, r⟩
  · exact .inl hn
  · refine .inr ⟨g, cap, cur, rfl, hg, ?_, r⟩
    rw [hb.block g (by
      rcases Nat.lt_or_ge g w.heap.size with h' | h'
      · exact h'
      · simp [Array.getElem?_eq_none h'] at hh)]
    exact hh
theorem zrow_set {w : World} {base size n : Nat} {e : TypeId} {v : Value} {xs : List Value} (h : w.ownsRow base e size v n xs) {k : Nat} (hk : v.ownBlock ≠ some k) (i : Nat) (x : Value) : (w.setCell ⟨k, i, none⟩ x).ownsRow base e size v n xs := by
  refine ⟨h.1, ?_⟩
  rcases h.2 with hn | ⟨g, cap, cur, rfl, hg, hh, r⟩
  · exact .inl hn
  · refine .inr ⟨g, cap, cur, rfl, hg, ?_, r⟩
    rw [Below.heap_setCell _ _ _ _ (by rintro rfl; exact hk rfl)]
    exact hh
theorem zrow_base {w : World} {base size n : Nat} {e : TypeId} {v : Value} {xs : List Value} (h : w.ownsRow base e size v n xs) {b' : Nat} (hb : b' ≤ base) : w.ownsRow b' e size v n xs := by
  refine ⟨h.1, ?_⟩
  rcases h.2 with hn | ⟨g, cap, cur, rfl, hg, r⟩
  · exact .inl hn
  · exact .inr ⟨g, cap, cur, rfl, Nat.le_trans hb hg, r⟩
theorem zrow_at {w : World} {base size n g : Nat} {e : TypeId} {cap : Nat} {xs : List Value} (h : w.ownsRow base e size (.slice (some ⟨g, 0, none⟩) n cap) n xs) (j : Nat) (u : Value) (hu : xs[j]? = some u) : w.cell? ⟨g, j, none⟩ = some u := by
  have h1 := h.cells (g := g) rfl j u hu
  have h2 : (⟨g, 0, none⟩ : Addr).add j = ⟨g, j, none⟩ := by unfold Addr.add; split <;> simp_all
  rwa [h2] at h1
theorem zrow_shape {w : World} {base size n : Nat} {e : TypeId} {v : Value} {xs : List Value} (h : w.ownsRow base e size v n xs) : (v = .slice none 0 0 ∧ n = 0) ∨ ∃ g cap, v = .slice (some ⟨g, 0, none⟩) n cap := by
  rcases h.2 with h' | ⟨g, cap, cur, rfl, _⟩
  · exact .inl h'
  · exact .inr ⟨g, cap, rfl⟩
theorem zrow_slice {w : World} {base size n : Nat} {e : TypeId} {v : Value} {xs : List Value} (h : w.ownsRow base e size v n xs) : ∃ a cap, v = .slice a n cap := by
  rcases zrow_shape h with ⟨rfl, rfl⟩ | ⟨g, cap, rfl⟩
  · exact ⟨none, 0, rfl⟩
  · exact ⟨_, _, rfl⟩
theorem zbelow_grow {B : Nat} {a w w' : World} (h : Below B a w) {row : Option Nat} (hg : w.grownBy w' row) (hr : ∀ k, row = some k → B ≤ k) (hB : B ≤ w.heap.size) : Below B a w' :=
  ⟨hg.os.trans h.os, hg.tape.trans h.tape, hg.output.trans h.output, Nat.le_trans h.size hg.size, fun k hk => (hg.block k (Nat.lt_of_lt_of_le hk hB) (fun e => by have := hr k e.symm; omega)).trans (h.block k hk)⟩
theorem zbelow_set {B : Nat} {a w : World} (h : Below B a w) {k : Nat} (hk : B ≤ k) (i : Nat) (v : Value) : Below B a (w.setCell ⟨k, i, none⟩ v) := h.setCell (p := ⟨k, i, none⟩) hk v
theorem OwnAt.grow {w w' : World} {b : Nat} {cs : List Value} {T : TypeId} (h : OwnAt w b cs T) {row : Option Nat} (hg : w.grownBy w' row) (hr : row ≠ some b) : OwnAt w' b cs T := (hg.block b h.lt (fun e => hr e.symm)).trans h
theorem OwnAt.news {w : World} {b : Nat} {cs : List Value} {T : TypeId} (h : OwnAt w b cs T) : ∀ j u, cs[j]? = some u → w.cell? ((⟨b, 0, none⟩ : Addr).add j) = some u := by
  intro j u hu
  have h2 : (⟨b, 0, none⟩ : Addr).add j = ⟨b, j, none⟩ := by unfold Addr.add; split <;> simp_all
  rw [h2]; exact h.at j u hu
theorem zflat_len {α : Type} (f : α → List Value) (k : Nat) (hf : ∀ x, (f x).length = k) : ∀ l : List α, (l.flatMap f).length = l.length * k
  | [] => by simp
  | x :: l => by
    have := zflat_len f k hf l
    simp only [List.flatMap_cons, List.length_append, List.length_cons]
    rw [this, hf, Nat.add_mul]; omega
theorem zflat_at {α : Type} (f : α → List Value) (k : Nat) (hf : ∀ x, (f x).length = k) : ∀ (l : List α) (i q : Nat) (p : α), l[i]? = some p → q < k → (l.flatMap f)[i * k + q]? = (f p)[q]?
  | [], i, q, p, h, _ => by simp at h
  | x :: l, 0, q, p, h, hq => by
    simp at h; subst h
    rw [List.flatMap_cons, List.getElem?_append_left (by rw [hf]; omega)]
    simp
  | x :: l, i + 1, q, p, h, hq => by
    simp at h
    have := zflat_at f k hf l i q p h hq
    rw [List.flatMap_cons, List.getElem?_append_right (by rw [hf, Nat.add_mul]; omega), ← this]
    congr 1; rw [hf, Nat.add_mul]; omega

/-- Raw numbers that came in. -/
def ZRaw (w : World) (l : List Int) (v : Value) : Prop :=
  ∃ a cap b off, v = .slice a l.length cap ∧ (l.length = 0 ∨ a = some ⟨b, off, none⟩) ∧ l.length ≤ 9223372036854775807 ∧
    ∀ i, i < l.length → w.cell? ⟨b, off + i, none⟩ = some (.int .i64 (l.getD i 0)) ∧ I64 (l.getD i 0)
theorem ZRaw.old {w w' : World} {l : List Int} {v : Value} (h : ZRaw w l v) (hb : Below w.heap.size w w') : ZRaw w' l v := by
  obtain ⟨a, cap, b, off, h1, h2, h3, h4⟩ := h
  exact ⟨a, cap, b, off, h1, h2, h3, fun i hi => ⟨below_keeps hb (h4 i hi).1, (h4 i hi).2⟩⟩
theorem ZRaw.slice {w : World} {l : List Int} {v : Value} (h : ZRaw w l v) : ∃ a cap, v = .slice a l.length cap := by
  obtain ⟨a, cap, b, off, h1, _⟩ := h; exact ⟨a, cap, h1⟩
theorem ZRaw.at {w : World} {l : List Int} {a : Option Addr} {n cap : Nat} (h : ZRaw w l (.slice a n cap)) (i : Nat) (hi : i < l.length) : ∃ b off, a = some ⟨b, off, none⟩ ∧ b < w.heap.size ∧ w.cell? ⟨b, off + i, none⟩ = some (.int .i64 (l.getD i 0)) ∧ I64 (l.getD i 0) := by
  obtain ⟨a', cap', b, off, h1, h2, h3, h4⟩ := h
  cases h1
  rcases h2 with h2 | h2
  · omega
  · exact ⟨b, off, h2, World.block_lt_of_cell? _ _ (h4 i hi).1, (h4 i hi).1, (h4 i hi).2⟩
/-- Pairs of raw numbers that came in. -/
def ZRaw2 (w : World) (l : List (Int × Int)) (v : Value) : Prop :=
  ∃ a cap b off, v = .slice a l.length cap ∧ (l.length = 0 ∨ a = some ⟨b, off, none⟩) ∧ l.length ≤ 9223372036854775807 ∧
    ∀ i, i < l.length → w.cell? ⟨b, off + i * 2, none⟩ = some (.int .i64 (l.getD i (0, 0)).1) ∧ w.cell? ⟨b, off + i * 2 + 1, none⟩ = some (.int .i64 (l.getD i (0, 0)).2) ∧ I64 (l.getD i (0, 0)).1 ∧ I64 (l.getD i (0, 0)).2
theorem ZRaw2.old {w w' : World} {l : List (Int × Int)} {v : Value} (h : ZRaw2 w l v) (hb : Below w.heap.size w w') : ZRaw2 w' l v := by
  obtain ⟨a, cap, b, off, h1, h2, h3, h4⟩ := h
  exact ⟨a, cap, b, off, h1, h2, h3, fun i hi => ⟨below_keeps hb (h4 i hi).1, below_keeps hb (h4 i hi).2.1, (h4 i hi).2.2⟩⟩
theorem ZRaw2.slice {w : World} {l : List (Int × Int)} {v : Value} (h : ZRaw2 w l v) : ∃ a cap, v = .slice a l.length cap := by
  obtain ⟨a, cap, b, off, h1, _⟩ := h; exact ⟨a, cap, h1⟩
theorem ZRaw2.at {w : World} {l : List (Int × Int)} {a : Option Addr} {n cap : Nat} (h : ZRaw2 w l (.slice a n cap)) (i : Nat) (hi : i < l.length) : ∃ b off, a = some ⟨b, off, none⟩ ∧ b < w.heap.size ∧ w.cell? ⟨b, off + i * 2, none⟩ = some (.int .i64 (l.getD i (0, 0)).1) ∧ w.cell? ⟨b, off + i * 2 + 1, none⟩ = some (.int .i64 (l.getD i (0, 0)).2) ∧ I64 (l.getD i (0, 0)).1 ∧ I64 (l.getD i (0, 0)).2 := by
  obtain ⟨a', cap', b, off, h1, h2, h3, h4⟩ := h
  cases h1
  rcases h2 with h2 | h2
  · omega
  · exact ⟨b, off, h2, World.block_lt_of_cell? _ _ (h4 i hi).1, h4 i hi⟩
end Go.Proofs.YtjmidoncojajcaaDoor

namespace Go.Proofs.YtjmidoncojajcaaDoor
open Go.RowKit
set_option maxHeartbeats 4000000
set_option maxRecDepth 100000

def wordB (x : Bs) : Bool := (match x with | c :: _ => isLetter c | [] => false) && x.all (fun c => decide (c.toNat < 128) && wordR (c.toNat : Nat)) && decide (x.length ≤ 20)
theorem wordB_of {x : Bs} (h : wordB x = true) : (∃ c t, x = c :: t ∧ isLetter c = true) ∧ (∀ c, c ∈ x → c.toNat < 128 ∧ wordR (c.toNat : Nat) = true) ∧ x.length ≤ 20 := by
  unfold wordB at h
  simp only [Bool.and_eq_true] at h
  obtain ⟨⟨h1, h2⟩, h3⟩ := h
  refine ⟨?_, fun c hc => ?_, of_decide_eq_true h3⟩
  · cases x with
    | nil => cases h1
    | cons c t => exact ⟨c, t, rfl, h1⟩
  · have := List.all_eq_true.1 h2 c hc
    simp only [Bool.and_eq_true, decide_eq_true_eq] at this
    exact this
theorem zword_words : ∀ j : Fin 10, isWord (zwordL.getD j.val []) = true ∧ wordB (zwordL.getD j.val []) = true := by decide +kernel
theorem zvar_names : ∀ j : Fin 312, isName (zvarN j.val) = true ∧ isWord (zvarN j.val) = false ∧ wordB (zvarN j.val) = true := by decide +kernel
def signB (x : Bs) : Bool := isSign x && (match x with | c :: _ => decide (c.toNat < 128) && !isLetter c && !isDigit c && !(c == 39) | [] => false)
theorem zsign_signs : ∀ j : Fin 27, signB (zsignL.getD j.val []) = true := by decide +kernel
theorem signB_of {x : Bs} (h : signB x = true) : isSign x = true ∧ ∃ c t, x = c :: t ∧ c.toNat < 128 ∧ (isLetter c = false ∧ isDigit c = false ∧ c ≠ 39) := by
  unfold signB at h
  simp only [Bool.and_eq_true] at h
  obtain ⟨h1, h2⟩ := h
  refine ⟨h1, ?_⟩
  cases x with
  | nil => cases h2
  | cons c t =>
    simp only [Bool.and_eq_true, decide_eq_true_eq, Bool.not_eq_true', beq_eq_false_iff_ne] at h2
    exact ⟨c, t, rfl, h2.1.1.1, h2.1.1.2, h2.1.2, h2.2⟩
theorem zrune_decode (r : Nat) (h0 : 161 ≤ r) (h1 : r < 9000) (rest : Bs) : Lib.decodeGo (strOf (zrune r ++ 39 :: rest)) = (r, (zrune r).length) := by
  have hs : (strOf (zrune r ++ 39 :: rest)).size = (zrune r).length + 1 + rest.length := by
    show (zrune r ++ 39 :: rest).toArray.size = _
    simp; omega
  unfold Lib.decodeGo
  rw [if_neg (by rw [hs]; omega), Lib.decode_at, hs]
  by_cases h : r < 2048
  · rw [zrune_two r h0 h]
    have e0 : ((strOf ([UInt8.ofNat (192 + r / 64), UInt8.ofNat (128 + r % 64)] ++ 39 :: rest)).get! 0).toNat = 192 + r / 64 := ofNat_toNat8 _ (by omega)
    have e1 : ((strOf ([UInt8.ofNat (192 + r / 64), UInt8.ofNat (128 + r % 64)] ++ 39 :: rest)).get! (0 + 1)).toNat = 128 + r % 64 := ofNat_toNat8 _ (by omega)
    rw [e0, e1]
    generalize ((strOf ([UInt8.ofNat (192 + r / 64), UInt8.ofNat (128 + r % 64)] ++ 39 :: rest)).get! (0 + 2)).toNat = b2
    generalize ((strOf ([UInt8.ofNat (192 + r / 64), UInt8.ofNat (128 + r % 64)] ++ 39 :: rest)).get! (0 + 3)).toNat = b3
    unfold Lib.decodeN
    simp only [List.length_cons, List.length_nil]
    rw [if_neg (by omega), if_pos (by omega), if_pos (by omega)]
    rw [Prod.mk.injEq]; exact ⟨by omega, rfl⟩
  · rw [zrune_three r (by omega) h1]
    have e0 : ((strOf ([UInt8.ofNat (224 + r / 4096), UInt8.ofNat (128 + r / 64 % 64), UInt8.ofNat (128 + r % 64)] ++ 39 :: rest)).get! 0).toNat = 224 + r / 4096 := ofNat_toNat8 _ (by omega)
    have e1 : ((strOf ([UInt8.ofNat (224 + r / 4096), UInt8.ofNat (128 + r / 64 % 64), UInt8.ofNat (128 + r % 64)] ++ 39 :: rest)).get! (0 + 1)).toNat = 128 + r / 64 % 64 := ofNat_toNat8 _ (by omega)
    have e2 : ((strOf ([UInt8.ofNat (224 + r / 4096), UInt8.ofNat (128 + r / 64 % 64), UInt8.ofNat (128 + r % 64)] ++ 39 :: rest)).get! (0 + 2)).toNat = 128 + r % 64 := ofNat_toNat8 _ (by omega)
    rw [e0, e1, e2]
    generalize ((strOf ([UInt8.ofNat (224 + r / 4096), UInt8.ofNat (128 + r / 64 % 64), UInt8.ofNat (128 + r % 64)] ++ 39 :: rest)).get! (0 + 3)).toNat = b3
    unfold Lib.decodeN
    simp only [List.length_cons, List.length_nil]
    rw [if_neg (by omega), if_neg (by omega), if_pos (by omega), if_pos (by omega)]
    rw [Prod.mk.injEq]; exact ⟨by omega, rfl⟩
theorem zword_ok (n c : Int) : PcOk (zword n c).1 (zword n c).2.1 (zword n c).2.2 ∧ (zword n c).1.length ≤ 20 := by
  obtain ⟨k, hk, e⟩ := zpick_nat n 44 (by decide)
  have e' : zpick n 44 = k := e
  unfold zword
  rw [e', Int.toNat_natCast]
  dsimp only
  by_cases h1 : k < 10
  · rw [if_pos h1]
    obtain ⟨hw, hb⟩ := zword_words ⟨k, h1⟩
    obtain ⟨⟨c0, t, hc, hl⟩, ha, hz⟩ := wordB_of hb
    exact ⟨.word _ hw c0 t hc hl ha, hz⟩
  · rw [if_neg h1]
    by_cases h2 : k < 37
    · rw [if_pos h2]
      obtain ⟨hs, c0, t, hc, h7, hn⟩ := signB_of (zsign_signs ⟨k - 10, by omega⟩)
      refine ⟨.sign _ hs c0 t hc h7 hn, ?_⟩
      rcases sign_cases hs with h | h | h | h | h | h | h | h | h | h | h | h | h | h | h | h | h | h | h | h | h | h | h | h | h | h | h <;> (dsimp only at h ⊢; rw [h]; decide)
    · rw [if_neg h2]
      by_cases h3 : k < 40
      · rw [if_pos h3]
        obtain ⟨u, hu, eu⟩ := zpick_nat c 1099511627776 (by decide)
        have eu' : zpick c 1099511627776 = u := eu
        rw [eu', Int.toNat_natCast]
        have hl := digits_len u hu
        have hd := digit_mem u
        have hn := digits_ne u
        cases hc : Lib.decDigits u with
        | nil => exact absurd hc hn
        | cons c0 t =>
          dsimp only
          rw [← hc]
          exact ⟨.num u hl (by omega) c0 t hc (hd c0 (by rw [hc]; exact List.mem_cons_self)), by omega⟩
      · rw [if_neg h3]
        by_cases h4 : k = 40
        · rw [if_pos h4]
          obtain ⟨u, hu, eu⟩ := zpick_nat c 8192 (by decide)
          have eu' : zpick c 8192 = u := eu
          rw [eu', Int.toNat_natCast]
          have hl := zrune_len (161 + u) (by omega) (by omega)
          refine ⟨.quote (161 + u) _ (by omega) (by omega) (by omega) (by omega) (by omega) (by omega) (fun rest => zrune_decode _ (by omega) (by omega) rest), ?_⟩
          simp; omega
        · rw [if_neg h4]
          obtain ⟨u, hu, eu⟩ := zpick_nat c 312 (by decide)
          have eu' : zpick c 312 = u := eu
          unfold zvar
          rw [eu', Int.toNat_natCast]
          obtain ⟨hn, hw, hb⟩ := zvar_names ⟨u, hu⟩
          obtain ⟨⟨c0, t, hc, hl⟩, ha, hz⟩ := wordB_of hb
          exact ⟨.name _ hn hw c0 t hc hl ha, hz⟩

def zblankT (l : List Int) (i : Nat) : Bs := gapText (zblank l i).1 (zblank l i).2
def commB (c : Bs) : Bool := (match c with | 47 :: 47 :: _ => true | _ => false) && !(c.contains 10) && Lib.validD c && !(Lib.contains c [239, 191, 189])
def gapB (g : Bs × List (Bs × Bs)) : Bool := g.1.all isBlank && !g.1.isEmpty && g.2.all (fun p => commB p.1 && p.2.all isBlank && (match p.2 with | 10 :: _ => true | _ => false)) && decide ((gapText g.1 g.2).length ≤ 20)
theorem commB_of {c : Bs} (h : commB c = true) : CommOk c := by
  unfold commB at h
  simp only [Bool.and_eq_true, Bool.not_eq_true'] at h
  obtain ⟨⟨⟨h1, h2⟩, h3⟩, h4⟩ := h
  refine ⟨?_, fun hm => ?_, h3, h4⟩
  · split at h1
    · exact ⟨_, rfl⟩
    · cases h1
  · rw [List.contains_eq_mem] at h2
    simp [hm] at h2
theorem gapB_of {g : Bs × List (Bs × Bs)} (h : gapB g = true) : GapOk g.1 g.2 ∧ (∃ c t, g.1 = c :: t) ∧ (gapText g.1 g.2).length ≤ 20 := by
  unfold gapB at h
  simp only [Bool.and_eq_true] at h
  obtain ⟨⟨⟨h1, h2⟩, h3⟩, h4⟩ := h
  refine ⟨⟨fun c hc => List.all_eq_true.1 h1 c hc, fun p hp => ?_⟩, ?_, of_decide_eq_true h4⟩
  · have := List.all_eq_true.1 h3 p hp
    simp only [Bool.and_eq_true] at this
    obtain ⟨⟨q1, q2⟩, q3⟩ := this
    refine ⟨commB_of q1, fun c hc => List.all_eq_true.1 q2 c hc, ?_⟩
    split at q3
    · rename_i r e; exact ⟨r, e⟩
    · cases q3
  · cases hg : g.1 with
    | nil => rw [hg] at h2; cases h2
    | cons c t => exact ⟨c, t, rfl⟩
theorem zblank_all : ∀ j : Fin 8, gapB (zblankL.getD j.val ([32], [])) = true := by decide +kernel
theorem zblank_ok (l : List Int) (i : Nat) : GapOk (zblank l i).1 (zblank l i).2 ∧ (∃ c t, (zblank l i).1 = c :: t) ∧ (zblankT l i).length ≤ 20 := by
  unfold zblankT zblank
  by_cases h : i < l.length
  · rw [if_pos h]
    obtain ⟨u, hu, eu⟩ := zpick_nat (l.getD i 0) 8 (by decide)
    have eu' : zpick (l.getD i 0) 8 = u := eu
    rw [eu', Int.toNat_natCast]
    exact gapB_of (zblank_all ⟨u, hu⟩)
  · rw [if_neg h]
    exact gapB_of (g := ([32], [])) (by decide +kernel)
end Go.Proofs.YtjmidoncojajcaaDoor

namespace Go.Proofs.YtjmidoncojajcaaDoor
open Go.RowKit
set_option maxHeartbeats 4000000
set_option maxRecDepth 100000

theorem zpick_any (c n : Int) (hc : I64 c) (h0 : 0 < n) (h1 : n ≤ 9223372036854775807) (w : World) :
    Calls Tryd.prog 15 #[.int .i64 c, .int .i64 n] w fun e w' => e = .returned (.int .i64 (zpick c n)) ∧ w = w' := by
  obtain ⟨l, u⟩ := hc
  unfold zpick
  by_cases hneg : c < 0
  · rw [if_pos hneg]
    have hn0 : (n == 0) = false := by simp; omega
    go_enter Tryd.func15, Tryd.ntmps15
    go_wp2_with fail
    go_ret
    exact ⟨ret_int (by show -((c + 1).tmod n) = _; rw [← Int.neg_tmod, Int.tmod_eq_emod_of_nonneg (by omega)]), rfl⟩
  · rw [if_neg hneg]
    have hneg' : 0 ≤ c := by omega
    go_enter Tryd.func15, Tryd.ntmps15
    go_wp2_with fail
    go_ret
    exact ⟨rfl, rfl⟩
/-- A slice of one byte as a text. -/
theorem zconv_one (n : Int) (h0 : 0 ≤ n) (h1 : n < 256) (W : World) (b : Nat) (hc : W.cell? ⟨b, 0, none⟩ = some (.int .u8 n)) :
    (convert 49 9 (.slice (some ⟨b, 0, none⟩) 1 1)).run Tryd.prog W = .ok (.string (strOf [UInt8.ofNat n.toNat])) W := by
  refine run_convert_bytes_back (P := Tryd.prog) W 49 9 5 ⟨b, 0, none⟩ 1 [UInt8.ofNat n.toNat] Tryd.underlying49 Tryd.underlying5 Tryd.underlying9 (fun j hj => ?_)
  have hj0 : j = 0 := by simp at hj; omega
  subst hj0
  have e : ((UInt8.ofNat n.toNat).toNat : Int) = n := by
    rw [UInt8.toNat_ofNat']
    have : n.toNat % 2 ^ 8 = n.toNat := Nat.mod_eq_of_lt (by omega)
    omega
  show W.cell? _ = some (.int .u8 ((UInt8.ofNat n.toNat).toNat : Int))
  rw [e]; exact hc
theorem zsuf_at : ∀ j : Fin 12, ([Value.string ⟨#[]⟩, Value.string ⟨#[49]⟩, Value.string ⟨#[95]⟩, Value.string ⟨#[90, 57]⟩, Value.string ⟨#[105, 102]⟩, Value.string ⟨#[120]⟩, Value.string ⟨#[48]⟩, Value.string ⟨#[97, 97]⟩, Value.string ⟨#[105, 110, 116, 105, 110, 116]⟩, Value.string ⟨#[113, 55]⟩, Value.string ⟨#[66]⟩, Value.string ⟨#[48, 48]⟩] : List Value)[j.val]'(by simp) = .string (strOf (zsufs.getD j.val [])) := by
  intro j
  obtain ⟨j, hj⟩ := j
  have : j = 0 ∨ j = 1 ∨ j = 2 ∨ j = 3 ∨ j = 4 ∨ j = 5 ∨ j = 6 ∨ j = 7 ∨ j = 8 ∨ j = 9 ∨ j = 10 ∨ j = 11 := by omega
  rcases this with rfl | rfl | rfl | rfl | rfl | rfl | rfl | rfl | rfl | rfl | rfl | rfl <;> rfl
theorem zvar_any (c : Int) (hc : I64 c) (w : World) :
    Calls Tryd.prog 17 #[.int .i64 c] w fun e w' => e = .returned (.string (strOf (zvar c))) ∧ Below w.heap.size w w' := by
  have hk := zpick_range c 312 (by decide)
  have E : Hid (zvar c = UInt8.ofNat (97 + (zpick c 312 % 26).toNat) :: zsufs.getD (zpick c 312 / 26).toNat []) := by
    show _ = _
    unfold zvar zvarN
    congr 2
    · congr 1; omega
    · omega
  rw [E.out]
  have HC := Lib.hid hc
  have HK : Hid (∀ w, Calls Tryd.prog 15 #[.int .i64 c, .int .i64 312] w fun e w' => e = .returned (.int .i64 (zpick c 312)) ∧ w = w') := fun w => zpick_any c 312 hc (by decide) (by decide) w
  clear hc E
  generalize zpick c 312 = k at *
  obtain ⟨hk0, hk1⟩ := hk
  have hm0 : 0 ≤ k % 26 := Int.emod_nonneg _ (by decide)
  have hm1 : k % 26 < 26 := Int.emod_lt_of_pos _ (by decide)
  have hd0 : 0 ≤ k / 26 := by omega
  have hd1 : k / 26 < 12 := by omega
  have hd2 : (k / 26).toNat < 12 := by omega
  have HCV := zconv_one (97 + k % 26) (by omega) (by omega)
  have HLD := zsuf_at ⟨(k / 26).toNat, hd2⟩
  dsimp only at HLD
  have hlen : (zsufs.getD (k / 26).toNat []).length ≤ 6 := by
    have h : ∀ j : Fin 12, (zsufs.getD j.val []).length ≤ 6 := by decide
    exact h ⟨_, hd2⟩
  generalize zsufs.getD (k / 26).toNat [] = sf at *
  have hno : ¬ ((strOf [UInt8.ofNat (97 + k % 26).toNat]).size + (strOf sf).size > 9223372036854775807) := by
    show ¬ ([UInt8.ofNat (97 + k % 26).toNat].toArray.size + sf.toArray.size > _)
    simp; omega
  have hsb : Hid (strOf [UInt8.ofNat (97 + k % 26).toNat] ++ strOf sf = strOf (UInt8.ofNat (97 + (k % 26).toNat) :: sf)) := by
    show _ = _
    rw [show 97 + (k % 26).toNat = (97 + k % 26).toNat by omega]; rfl
  generalize strOf [UInt8.ofNat (97 + k % 26).toNat] = cb at *
  generalize hsf : strOf sf = sb at *
  have HSF := Lib.hid hsf
  clear hsf hlen
  go_enter Tryd.func17, Tryd.ntmps17
  go_wp2_with fail
  refine (HK.out _).mono ?_
  rintro r w2 ⟨rfl, rfl⟩
  go_wp2_with fail
  go_region
  all_goals go_wp2_with fail
  all_goals
    go_ret
    refine ⟨?_, by repeat (first | exact Below.refl _ _ | refine Below.drew ?_ | refine Below.alloc ?_ (by simp) _)⟩
    exact congrArg (fun s => Ending.returned (Value.string s)) hsb.out
end Go.Proofs.YtjmidoncojajcaaDoor

namespace Go.Proofs.YtjmidoncojajcaaDoor
open Go.RowKit
set_option maxHeartbeats 4000000
set_option maxRecDepth 100000

def zpre (m : Nat) : Bs := if m = 0 then [] else Lib.decDigits m
theorem zpre_step (m : Nat) : Lib.decDigits m = zpre (m / 10) ++ [UInt8.ofNat (48 + m % 10)] := by
  rw [Lib.decDigits]
  unfold zpre
  by_cases h : m < 10
  · rw [dif_pos h, if_pos (by omega), Nat.mod_eq_of_lt h]; rfl
  · rw [dif_neg h, if_neg (by omega)]
theorem num_any (N : Nat) (hN : N < 1099511627776) (w : World) :
    Calls Tryd.prog 16 #[.int .i64 N] w fun e w' => e = .returned (.string (strOf (Lib.decDigits N))) ∧ Below w.heap.size w w' := by
  have hlen := digits_len N hN
  obtain ⟨D, hD⟩ : ∃ D, Lib.decDigits N = D := ⟨_, rfl⟩
  rw [hD] at hlen ⊢
  have HD := Lib.hid hD; have HLEN := Lib.hid hlen
  clear hD hlen
  go_enter Tryd.func16, Tryd.ntmps16
  go_wp2_with fail
  go_loopw [0, 3, 4] (fun s0 s3 s4 wr => ∃ (m : Nat) (t : Bs) (f : Bool), s0 = .int .i64 m ∧ s3 = .string (strOf t) ∧ s4 = .bool f ∧ m < 1099511627776 ∧ D = (if f = true then Lib.decDigits m else zpre m) ++ t ∧ (f = true → t = []) ∧ Below w.heap.size w wr) (fun s0 _ s4 _ => (match s0 with | .int _ n => n.toNat | _ => 0) + (match s4 with | .bool true => 1 | _ => 0))
  case atStart => exact ⟨N, [], true, rfl, rfl, rfl, hN, by rw [if_pos rfl, HD.out, List.append_nil], fun _ => rfl, Below.refl _ _⟩
  case round =>
    obtain ⟨m, t, f, rfl, rfl, rfl, hm, hDt, hft, hb⟩ := hrel
    have HB := Lib.hid hb
    have htl : t.length ≤ 18 := by have := HLEN.out; rw [hDt, List.length_append] at this; omega
    have HFT := Lib.hid hft
    by_cases hgo : f = true ∨ 0 < m
    · have hst : D = zpre (m / 10) ++ (UInt8.ofNat (48 + m % 10) :: t) := by
        have e : (if f = true then Lib.decDigits m else zpre m) = Lib.decDigits m := by
          by_cases hf : f = true
          · rw [if_pos hf]
          · rw [if_neg hf]; unfold zpre; rw [if_neg (by rcases hgo with h | h; exact absurd h hf; omega)]
        rw [hDt, e, zpre_step m]; simp
      have HST := Lib.hid hst
      obtain ⟨M, hM⟩ : ∃ M : Int, (m : Int) = M := ⟨_, rfl⟩
      have M0 : 0 ≤ M := by omega
      have M1 : M < 1099511627776 := by omega
      have HCV := zconv_one (48 + M % 10) (by omega) (by omega)
      have hno : ¬ ((strOf [UInt8.ofNat (48 + M % 10).toNat]).size + (strOf t).size > 9223372036854775807) := by
        show ¬ ([UInt8.ofNat (48 + M % 10).toNat].toArray.size + t.toArray.size > _)
        simp; omega
      have hsb : Hid (strOf [UInt8.ofNat (48 + M % 10).toNat] ++ strOf t = strOf (UInt8.ofNat (48 + m % 10) :: t)) := by
        show _ = _
        rw [show (48 + M % 10).toNat = 48 + m % 10 by omega]; rfl
      have hq : Hid (M / 10 = ((m / 10 : Nat) : Int)) := by show _ = _; omega
      have hmm : Hid (M = (m : Int)) := hM.symm
      have m0 : 0 ≤ M % 10 := by omega
      have m1 : M % 10 < 10 := by omega
      have hpos : f = false → 0 < M := fun hf => by
        rcases hgo with h | h
        · rw [hf] at h; cases h
        · omega
      generalize strOf [UInt8.ofNat (48 + M % 10).toNat] = cb at *
      rw [hM]
      clear hst hDt hb hft hgo hM
      cases f with
      | true =>
        clear hpos
        go_wp2_with fail
        go_roundw
        case rel => exact ⟨m / 10, _, false, by rw [← hq.out], congrArg Value.string hsb.out, rfl, by omega, by simpa using HST.out, by simp, HB.out.alloc HB.out.size _⟩
        case measure => have := hmm.out; simp; omega
      | false =>
        have hpos := hpos rfl
        go_wp2_with fail
        go_roundw
        case rel => exact ⟨m / 10, _, false, by rw [← hq.out], congrArg Value.string hsb.out, rfl, by omega, by simpa using HST.out, by simp, HB.out.alloc HB.out.size _⟩
        case measure => have := hmm.out; simp; omega
    · have hf : f = false := by cases f with | true => exact absurd (.inl rfl) hgo | false => rfl
      have hm0 : m = 0 := by rcases Nat.eq_zero_or_pos m with h | h; exact h; exact absurd (.inr h) hgo
      subst hf; subst hm0
      have hDt' : D = t := by rw [hDt]; simp [zpre]
      clear hDt
      go_wp2_with fail
      go_ret
      exact ⟨by rw [hDt']; rfl, HB.out⟩
end Go.Proofs.YtjmidoncojajcaaDoor
