/-
  What begins a token is no blank and no comment. No condition.
  Rows in blocks of their own, as appends make them; what stays. No condition.
  Scan: a text as tokens, each with blanks and comments behind it. Conditions: the tokens may be; behind them stands nothing, or what is none; the library's tables lie in memory.
  A token with no blank behind it: what may stand there, or the text's end. Condition: PcOk says which token.
  Parse, Expr of a text of tokens. Conditions: the tokens may stand so; the library's tables lie in memory.
  The texts of expressions and programs, as plain functions. No program in sight.
-/
import Derived.Test.YtcfpfnoldgnloaaGreatDoorPn20
import Derived.Test.YtcfpfnoldgnloaaGreatDoorPn01
import Derived.Test.YtcfpfnoldgnloaaGreatDoorPn00
import Derived.Deep.AppendLies
import Derived.IntWalk
import Derived.Lib.ItoaNum
set_option linter.unusedVariables false
set_option linter.unusedSimpArgs false
namespace Go.Proofs.YtcfpfnoldgnloaaGreatDoor
open Go.RowKit
set_option maxHeartbeats 4000000
set_option maxRecDepth 100000


theorem notBlank (c : UInt8) (h : c.toNat ≠ 32 ∧ c.toNat ≠ 9 ∧ c.toNat ≠ 10 ∧ c.toNat ≠ 13) : blankR (c.toNat : Nat) = false := by
  obtain ⟨h1, h2, h3, h4⟩ := h
  unfold blankR
  have g1 : ((c.toNat : Int) == 32) = false := by rw [beq_eq_false_iff_ne]; omega
  have g2 : ((c.toNat : Int) == 9) = false := by rw [beq_eq_false_iff_ne]; omega
  have g3 : ((c.toNat : Int) == 10) = false := by rw [beq_eq_false_iff_ne]; omega
  have g4 : ((c.toNat : Int) == 13) = false := by rw [beq_eq_false_iff_ne]; omega
  simp [g1, g2, g3, g4]
  try omega
theorem letter_ge {c : UInt8} (h : isLetter c = true) : 65 ≤ c.toNat := by
  simp [isLetter, UInt8.le_iff_toNat_le] at h
  by_cases e : c = 95
  · rw [e]; decide
  · simp only [e, false_or, or_false] at h
    omega
theorem digit_ge {c : UInt8} (h : isDigit c = true) : 48 ≤ c.toNat := by
  simp [isDigit, UInt8.le_iff_toNat_le] at h; omega
theorem ends_of {c : UInt8} {t : Bs} (h7 : c.toNat < 128) (h : c.toNat ≠ 32 ∧ c.toNat ≠ 9 ∧ c.toNat ≠ 10 ∧ c.toNat ≠ 13) : EndsAt blankR (c :: t) := .inr ⟨c, t, rfl, h7, notBlank c h⟩
theorem PcOk.ends {x : Bs} {k n : Int} (h : PcOk x k n) (r : Bs) : EndsAt blankR (x ++ r) := by
  cases h with
  | name x hx hk c t hc hl ha => rw [hc]; have := letter_ge hl; exact ends_of (letter_lt hl) (by omega)
  | word x hk c t hc hl ha => rw [hc]; have := letter_ge hl; exact ends_of (letter_lt hl) (by omega)
  | num u hu hi c t hc hd => rw [hc]; have := digit_ge hd; exact ends_of (digit_lt hd) (by omega)
  | quote q y => exact ends_of (c := 39) (t := y ++ [39] ++ r) (by decide) (by decide)
  | sign x hs c t hc h7 hn =>
    rcases sign_cases hs with rfl | rfl | rfl | rfl | rfl | rfl | rfl | rfl | rfl | rfl | rfl | rfl | rfl | rfl | rfl | rfl | rfl | rfl | rfl | rfl | rfl | rfl | rfl | rfl | rfl | rfl | rfl <;> (rw [List.cons_append]; exact ends_of (by decide) (by decide))
theorem PcOk.noComment {x : Bs} {k n : Int} (h : PcOk x k n) (b : UInt8) (hb : isBlank b = true) (r : Bs) : Lib.hasPrefix (x ++ b :: r) [47, 47] = false := by
  have hne : b ≠ 47 := by rintro rfl; simp [isBlank] at hb
  have key : ∀ (c : UInt8) (t : Bs), c ≠ 47 → Lib.hasPrefix (c :: t) [47, 47] = false := fun c t hc => by
    have h1 : ((47 : UInt8) == c) = false := by rw [beq_eq_false_iff_ne]; exact fun e => hc e.symm
    show ([47, 47] : List UInt8).isPrefixOf (c :: t) = false
    rw [List.isPrefixOf, h1]; rfl
  have key2 : ∀ (t : Bs), Lib.hasPrefix (47 :: b :: t) [47, 47] = false := fun t => by
    have h1 : ((47 : UInt8) == b) = false := by rw [beq_eq_false_iff_ne]; exact fun e => hne e.symm
    show ([47, 47] : List UInt8).isPrefixOf (47 :: b :: t) = false
    rw [List.isPrefixOf, List.isPrefixOf, h1]; rfl
  cases h with
  | name x hx hk c t hc hl ha => rw [hc, List.cons_append]; exact key _ _ (by rintro rfl; simp [isLetter] at hl)
  | word x hk c t hc hl ha => rw [hc, List.cons_append]; exact key _ _ (by rintro rfl; simp [isLetter] at hl)
  | num u hu hi c t hc hd => rw [hc, List.cons_append]; exact key _ _ (by rintro rfl; simp [isDigit] at hd)
  | quote q y => exact key 39 (y ++ [39] ++ b :: r) (by decide)
  | sign x hs c t hc h7 hn =>
    rcases sign_cases hs with rfl | rfl | rfl | rfl | rfl | rfl | rfl | rfl | rfl | rfl | rfl | rfl | rfl | rfl | rfl | rfl | rfl | rfl | rfl | rfl | rfl | rfl | rfl | rfl | rfl | rfl | rfl <;> first | (rw [List.cons_append]; exact key _ _ (by decide)) | exact key2 r
end Go.Proofs.YtcfpfnoldgnloaaGreatDoor

namespace Go.Proofs.YtcfpfnoldgnloaaGreatDoor
open Go.RowKit
set_option maxHeartbeats 4000000
set_option maxRecDepth 100000

theorem ZInfoInt : (Tryz.prog.info? 3).map (fun i => (i.zero, i.size, i.bytes)) = some (some (.int .i64 0), 1, 8) := by kernel_rfl
theorem ZInfoStr : (Tryz.prog.info? 9).map (fun i => (i.zero, i.size, i.bytes)) = some (some (.string ⟨#[]⟩), 1, 16) := by kernel_rfl
theorem zrow_old {w w' : World} {base size n : Nat} {e : TypeId} {v : Value} {xs : List Value} (h : w.ownsRow base e size v n xs) (hb : Below w.heap.size w w') : w'.ownsRow base e size v n xs := by
  refine ⟨h.1, ?_⟩
  rcases h.2 with hn | ⟨g, cap, cur, rfl, hg, hh, r⟩
  · exact .inl hn
  · refine .inr ⟨g, cap, cur, rfl, hg, ?_, r⟩
    rw [hb.block g (by
      rcases Nat.lt_or_ge g w.heap.size with h' | h'
      · exact h'
      · simp [Array.getElem?_eq_none h'] at hh)]
    exact hh
theorem zrow_set {w : World} {base size n : Nat} {e : TypeId} {v : Value} {xs : List Value} (h : w.ownsRow base e size v n xs) {k : Nat} (hk : v.ownBlock ≠ some k) (i : Nat) (x : Value) : (w.setCell ⟨k, i, none⟩ x).ownsRow base e size v n xs := by
  refine ⟨h.1, ?_⟩
  rcases h.2 with hn | ⟨g, cap, cur, rfl, hg, hh, r⟩
  · exact .inl hn
  · refine .inr ⟨g, cap, cur, rfl, hg, ?_, r⟩
    rw [Below.heap_setCell _ _ _ _ (by rintro rfl; exact hk rfl)]
    exact hh
theorem zrow_base {w : World} {base size n : Nat} {e : TypeId} {v : Value} {xs : List Value} (h : w.ownsRow base e size v n xs) {b' : Nat} (hb : b' ≤ base) : w.ownsRow b' e size v n xs := by
  refine ⟨h.1, ?_⟩
  rcases h.2 with hn | ⟨g, cap, cur, rfl, hg, r⟩
  · exact .inl hn
  · exact .inr ⟨g, cap, cur, rfl, Nat.le_trans hb hg, r⟩
theorem zrow_at {w : World} {base size n g : Nat} {e : TypeId} {cap : Nat} {xs : List Value} (h : w.ownsRow base e size (.slice (some ⟨g, 0, none⟩) n cap) n xs) (j : Nat) (u : Value) (hu : xs[j]? = some u) : w.cell? ⟨g, j, none⟩ = some u := by
  have h1 := h.cells (g := g) rfl j u hu
  have h2 : (⟨g, 0, none⟩ : Addr).add j = ⟨g, j, none⟩ := by unfold Addr.add; split <;> simp_all
  rwa [h2] at h1
theorem zrow_shape {w : World} {base size n : Nat} {e : TypeId} {v : Value} {xs : List Value} (h : w.ownsRow base e size v n xs) : (v = .slice none 0 0 ∧ n = 0) ∨ ∃ g cap, v = .slice (some ⟨g, 0, none⟩) n cap := by
  rcases h.2 with h' | ⟨g, cap, cur, rfl, _⟩
  · exact .inl h'
  · exact .inr ⟨g, cap, rfl⟩
theorem zrow_slice {w : World} {base size n : Nat} {e : TypeId} {v : Value} {xs : List Value} (h : w.ownsRow base e size v n xs) : ∃ a cap, v = .slice a n cap := by
  rcases zrow_shape h with ⟨rfl, rfl⟩ | ⟨g, cap, rfl⟩
  · exact ⟨none, 0, rfl⟩
  · exact ⟨_, _, rfl⟩
theorem zbelow_grow {B : Nat} {a w w' : World} (h : Below B a w) {row : Option Nat} (hg : w.grownBy w' row) (hr : ∀ k, row = some k → B ≤ k) (hB : B ≤ w.heap.size) : Below B a w' :=
  ⟨hg.os.trans h.os, hg.tape.trans h.tape, hg.output.trans h.output, Nat.le_trans h.size hg.size, fun k hk => (hg.block k (Nat.lt_of_lt_of_le hk hB) (fun e => by have := hr k e.symm; omega)).trans (h.block k hk)⟩
theorem zbelow_set {B : Nat} {a w : World} (h : Below B a w) {k : Nat} (hk : B ≤ k) (i : Nat) (v : Value) : Below B a (w.setCell ⟨k, i, none⟩ v) := h.setCell (p := ⟨k, i, none⟩) hk v
theorem OwnAt.grow {w w' : World} {b : Nat} {cs : List Value} {T : TypeId} (h : OwnAt w b cs T) {row : Option Nat} (hg : w.grownBy w' row) (hr : row ≠ some b) : OwnAt w' b cs T := (hg.block b h.lt (fun e => hr e.symm)).trans h
theorem OwnAt.news {w : World} {b : Nat} {cs : List Value} {T : TypeId} (h : OwnAt w b cs T) : ∀ j u, cs[j]? = some u → w.cell? ((⟨b, 0, none⟩ : Addr).add j) = some u := by
  intro j u hu
  have h2 : (⟨b, 0, none⟩ : Addr).add j = ⟨b, j, none⟩ := by unfold Addr.add; split <;> simp_all
  rw [h2]; exact h.at j u hu
theorem zflat_len {α : Type} (f : α → List Value) (k : Nat) (hf : ∀ x, (f x).length = k) : ∀ l : List α, (l.flatMap f).length = l.length * k
  | [] => by simp
  | x :: l => by
    have := zflat_len f k hf l
    simp only [List.flatMap_cons, List.length_append, List.length_cons]
    rw [this, hf, Nat.add_mul]; omega
theorem zflat_at {α : Type} (f : α → List Value) (k : Nat) (hf : ∀ x, (f x).length = k) : ∀ (l : List α) (i q : Nat) (p : α), l[i]? = some p → q < k → (l.flatMap f)[i * k + q]? = (f p)[q]?
  | [], i, q, p, h, _ => by simp at h
  | x :: l, 0, q, p, h, hq => by
    simp at h; subst h
    rw [List.flatMap_cons, List.getElem?_append_left (by rw [hf]; omega)]
    simp
  | x :: l, i + 1, q, p, h, hq => by
    simp at h
    have := zflat_at f k hf l i q p h hq
    rw [List.flatMap_cons, List.getElem?_append_right (by rw [hf, Nat.add_mul]; omega), ← this]
    congr 1; rw [hf, Nat.add_mul]; omega

/-- Raw numbers that came in. -/
def ZRaw (w : World) (l : List Int) (v : Value) : Prop :=
  ∃ a cap b off, v = .slice a l.length cap ∧ (l.length = 0 ∨ a = some ⟨b, off, none⟩) ∧ l.length ≤ 9223372036854775807 ∧
    ∀ i, i < l.length → w.cell? ⟨b, off + i, none⟩ = some (.int .i64 (l.getD i 0)) ∧ I64 (l.getD i 0)
theorem ZRaw.old {w w' : World} {l : List Int} {v : Value} (h : ZRaw w l v) (hb : Below w.heap.size w w') : ZRaw w' l v := by
  obtain ⟨a, cap, b, off, h1, h2, h3, h4⟩ := h
  exact ⟨a, cap, b, off, h1, h2, h3, fun i hi => ⟨below_keeps hb (h4 i hi).1, (h4 i hi).2⟩⟩
theorem ZRaw.slice {w : World} {l : List Int} {v : Value} (h : ZRaw w l v) : ∃ a cap, v = .slice a l.length cap := by
  obtain ⟨a, cap, b, off, h1, _⟩ := h; exact ⟨a, cap, h1⟩
theorem ZRaw.at {w : World} {l : List Int} {a : Option Addr} {n cap : Nat} (h : ZRaw w l (.slice a n cap)) (i : Nat) (hi : i < l.length) : ∃ b off, a = some ⟨b, off, none⟩ ∧ b < w.heap.size ∧ w.cell? ⟨b, off + i, none⟩ = some (.int .i64 (l.getD i 0)) ∧ I64 (l.getD i 0) := by
  obtain ⟨a', cap', b, off, h1, h2, h3, h4⟩ := h
  cases h1
  rcases h2 with h2 | h2
  · omega
  · exact ⟨b, off, h2, World.block_lt_of_cell? _ _ (h4 i hi).1, (h4 i hi).1, (h4 i hi).2⟩
/-- Pairs of raw numbers that came in. -/
def ZRaw2 (w : World) (l : List (Int × Int)) (v : Value) : Prop :=
  ∃ a cap b off, v = .slice a l.length cap ∧ (l.length = 0 ∨ a = some ⟨b, off, none⟩) ∧ l.length ≤ 9223372036854775807 ∧
    ∀ i, i < l.length → w.cell? ⟨b, off + i * 2, none⟩ = some (.int .i64 (l.getD i (0, 0)).1) ∧ w.cell? ⟨b, off + i * 2 + 1, none⟩ = some (.int .i64 (l.getD i (0, 0)).2) ∧ I64 (l.getD i (0, 0)).1 ∧ I64 (l.getD i (0, 0)).2
theorem ZRaw2.old {w w' : World} {l : List (Int × Int)} {v : Value} (h : ZRaw2 w l v) (hb : Below w.heap.size w w') : ZRaw2 w' l v := by
  obtain ⟨a, cap, b, off, h1, h2, h3, h4⟩ := h
  exact ⟨a, cap, b, off, h1, h2, h3, fun i hi => ⟨below_keeps hb (h4 i hi).1, below_keeps hb (h4 i hi).2.1, (h4 i hi).2.2⟩⟩
theorem ZRaw2.slice {w : World} {l : List (Int × Int)} {v : Value} (h : ZRaw2 w l v) : ∃ a cap, v = .slice a l.length cap := by
  obtain ⟨a, cap, b, off, h1, _⟩ := h; exact ⟨a, cap, h1⟩
theorem ZRaw2.at {w : World} {l : List (Int × Int)} {a : Option Addr} {n cap : Nat} (h : ZRaw2 w l (.slice a n cap)) (i : Nat) (hi : i < l.length) : ∃ b off, a = some ⟨b, off, none⟩ ∧ b < w.heap.size ∧ w.cell? ⟨b, off + i * 2, none⟩ = some (.int .i64 (l.getD i (0, 0)).1) ∧ w.cell? ⟨b, off + i * 2 + 1, none⟩ = some (.int .i64 (l.getD i (0, 0)).2) ∧ I64 (l.getD i (0, 0)).1 ∧ I64 (l.getD i (0, 0)).2 := by
  obtain ⟨a', cap', b, off, h1, h2, h3, h4⟩ := h
  cases h1
  rcases h2 with h2 | h2
  · omega
  · exact ⟨b, off, h2, World.block_lt_of_cell? _ _ (h4 i hi).1, h4 i hi⟩
end Go.Proofs.YtcfpfnoldgnloaaGreatDoor

namespace Go.Proofs.YtcfpfnoldgnloaaGreatDoor
open Go.RowKit
set_option maxHeartbeats 4000000
set_option maxRecDepth 100000

/-- A token stands ahead of a text. -/
structure TokAt (x : Bs) (k n : Int) (rest : Bs) : Prop where
  ends : EndsAt blankR (x ++ rest)
  nocomm : Lib.hasPrefix (x ++ rest) [47, 47] = false
  ne : x ≠ []
  call : ∀ w, (x ++ rest).length ≤ 1000000 → ZLib w → Calls Tryz.prog 41 #[.string (strOf (x ++ rest))] w fun e w' => e = .returned (.tuple #[tokV k x n 0, .bool true]) ∧ Below w.heap.size w w'
theorem PcOk.ne {x : Bs} {k n : Int} (h : PcOk x k n) : x ≠ [] := by
  cases h with
  | name x hx hk c t hc hl ha => rw [hc]; exact List.cons_ne_nil _ _
  | word x hk c t hc hl ha => rw [hc]; exact List.cons_ne_nil _ _
  | num u hu hi c t hc hd => rw [hc]; exact List.cons_ne_nil _ _
  | quote q y => exact List.cons_ne_nil _ _
  | sign x hs c t hc h7 hn => rw [hc]; exact List.cons_ne_nil _ _
theorem PcOk.at {x : Bs} {k n : Int} (h : PcOk x k n) (b : UInt8) (r : Bs) (hb : isBlank b = true) : TokAt x k n (b :: r) :=
  ⟨h.ends _, h.noComment b hb r, h.ne, fun w hz hl => token_any h b r hb hz w hl⟩
def ItsOk (z : Bs) : List It → Prop
  | [] => True
  | i :: l => TokAt i.x i.k i.n (i.gap ++ (itText l ++ z)) ∧ GapOk i.b i.l ∧ ItsOk z l
theorem ItsOk.of (z : Bs) : ∀ (l : List It), (∀ i, i ∈ l → ItOk i) → ItsOk z l
  | [], _ => trivial
  | i :: l, h => by
    have hi := h i List.mem_cons_self
    obtain ⟨c, t, e, hc⟩ := hi.blank (itText l ++ z)
    refine ⟨?_, hi.gap, ItsOk.of z l (fun j hj => h j (List.mem_cons_of_mem _ hj))⟩
    rw [e]; exact hi.tok.at c t hc
/-- The last line. -/
def endL (line : Nat) : List It → Nat
  | [] => line
  | i :: l => endL (line + feeds i.gap) l
/-- What stands behind the last token: nothing, or what is none. -/
structure TailOk (ok : Bool) (z : Bs) : Prop where
  ends : EndsAt blankR z
  nocomm : Lib.hasPrefix z [47, 47] = false
  nil : ok = true → z = []
  bad : ok = false → z ≠ [] ∧ ∀ w, ZLib w → Calls Tryz.prog 41 #[.string (strOf z)] w fun e w' => e = .returned (.tuple #[tokV 0 [] 0 0, .bool false]) ∧ Below w.heap.size w w'
theorem ItsOk.front {ok : Bool} {z : Bs} (hz : TailOk ok z) {l : List It} (h : ItsOk z l) : EndsAt blankR (itText l ++ z) ∧ Lib.hasPrefix (itText l ++ z) [47, 47] = false := by
  cases l with
  | nil => exact ⟨hz.ends, hz.nocomm⟩
  | cons i l =>
    have e : itText (i :: l) ++ z = i.x ++ (i.gap ++ (itText l ++ z)) := by rw [itText_cons]; simp
    rw [e]; exact ⟨h.1.ends, h.1.nocomm⟩
def ScanPost (ok : Bool) (w : World) (L : List Tk) (line : Nat) (e : Ending) (w' : World) : Prop :=
  Below w.heap.size w w' ∧ (if ok = true then ∃ v, e = .returned (.tuple #[v, .int .i64 0, .int .i64 0]) ∧ TksOwn w' w.heap.size (L ++ [⟨5, [], 0, line⟩]) v else e = .returned (.tuple #[.slice none 0 0, .int .i64 20, .int .i64 line]))
theorem feeds_le (l : Bs) : feeds l ≤ l.length := List.count_le_length
theorem scan_any (ok : Bool) (z : Bs) (hz : TailOk ok z) (b0 : Bs) (l0 : List (Bs × Bs)) (hg : GapOk b0 l0) (li0 : List It) (hi : ItsOk z li0) (hlen : (gapText b0 l0 ++ (itText li0 ++ z)).length ≤ 20000) (w : World) (hl : ZLib w) :
    Calls Tryz.prog 20 #[.string (strOf (gapText b0 l0 ++ (itText li0 ++ z)))] w (ScanPost ok w (toks (1 + feeds (gapText b0 l0)) li0) (endL (1 + feeds (gapText b0 l0)) li0)) := by
  obtain ⟨ALL, hall⟩ : ∃ A, toks (1 + feeds (gapText b0 l0)) li0 = A := ⟨_, rfl⟩
  obtain ⟨END, hend⟩ : ∃ A, endL (1 + feeds (gapText b0 l0)) li0 = A := ⟨_, rfl⟩
  rw [hall, hend]
  obtain ⟨q, hq⟩ : ∃ q, gapText b0 l0 ++ (itText li0 ++ z) = q := ⟨_, rfl⟩
  rw [hq] at hlen ⊢
  have HQ := Lib.hid hq; have HZ := Lib.hid hz; have HG := Lib.hid hg; have HI := Lib.hid hi; have HL := Lib.hid hl; have HALL := Lib.hid hall; have HEND := Lib.hid hend
  have hlenI : (q.length : Int) ≤ 20000 := by omega
  obtain ⟨i0, hi0, hz0, hz1, hz2⟩ := info_parts infoTk
  have HI0 := Lib.hid hi0; have HZ0 := Lib.hid hz0; have HZ1 := Lib.hid hz1; have HZ2 := Lib.hid hz2
  clear hi0 hz0 hz1 hz2 hq hz hg hi hl hall hend
  go_enter Tryz.func20, Tryz.ntmps20
  go_wp2_with fail
  go_loopw [0, 2, 5] (fun s0 s2 s5 wr => ∃ (b1 : Bs) (l1 : List (Bs × Bs)) (n : Nat) (li : List It) (done : List Tk) (q1 : Bs), s0 = .string (strOf q1) ∧ s5 = .int .i64 n ∧ q1 = gapText b1 l1 ++ (itText li ++ z) ∧ TksOwn wr w.heap.size done s2 ∧ GapOk b1 l1 ∧ ItsOk z li ∧ done ++ toks (n + feeds (gapText b1 l1)) li = ALL ∧ endL (n + feeds (gapText b1 l1)) li = END ∧ done.length + q1.length ≤ 20000 ∧ n + q1.length ≤ 20001 ∧ Below w.heap.size w wr) (fun s0 _ _ _ => match s0 with | .string s => s.size | _ => 0)
  case atStart => exact ⟨b0, l0, 1, li0, [], q, rfl, rfl, HQ.out.symm, TksOwn.zero _ _, HG.out, HI.out, HALL.out, HEND.out, by simpa using hlen, by omega, Below.refl _ _⟩
  case round =>
    obtain ⟨b1, l1, n, li, done, q1, rfl, rfl, hq1, hown, hg1, hi1, hall, hend, hdl, hnl, hb⟩ := hrel
    obtain ⟨oa, oc, rfl⟩ := zrow_slice hown
    have HL1 := Lib.hid (HL.out.old hb)
    have HB := Lib.hid hb
    obtain ⟨f1, f2⟩ := hi1.front HZ.out
    have HSK : Hid (∀ w1, ZLib w1 → Calls Tryz.prog 40 #[.string (strOf q1)] w1 fun e w' => e = .returned (.tuple #[.string (strOf (itText li ++ z)), .int .i64 (feeds (gapText b1 l1)), .bool true]) ∧ Below w1.heap.size w1 w') := by
      intro w1 h1
      rw [hq1]
      exact skip_any b1 l1 (itText li ++ z) hg1 f1 f2 (by rw [← hq1]; omega) w1 h1
    have hfe : feeds (gapText b1 l1) + (itText li ++ z).length ≤ q1.length := by
      have := feeds_le (gapText b1 l1)
      have e := congrArg List.length hq1
      rw [List.length_append] at e; omega
    have HOWN := Lib.hid hown
    have HOB : Hid (∀ k, (Value.slice oa done.length oc).ownBlock = some k → w.heap.size ≤ k ∧ k < wr.heap.size) := fun k e => hown.ge e
    clear f1 f2 hq1 hown hg1 hb
    obtain ⟨F, hF⟩ : ∃ F, feeds (gapText b1 l1) = F := ⟨_, rfl⟩
    rw [hF] at HSK hfe hall hend
    clear hF
    have nI : (n : Int) + (F : Int) ≤ 1000000 := by omega
    have nJ : (0 : Int) ≤ (n : Int) + (F : Int) := by omega
    have hN : (n : Int) + (F : Int) = ((n + F : Nat) : Int) := by omega
    have HN := Lib.hid hN
    clear hN
    cases li with
    | nil =>
      have er : itText [] ++ z = z := by simp [itText]
      rw [er] at HSK hfe
      clear er
      have hall' : done = ALL := by rw [← hall]; simp [toks]
      have hend' : n + F = END := hend
      have HA := Lib.hid hall'; have HE := Lib.hid hend'
      have hbad := HZ.out.bad; have hnil := HZ.out.nil
      clear hall hend hall' hend' hi1
      cases ok with
      | true =>
        have hz0 := hnil rfl
        subst hz0
        clear hbad hnil
        go_wp2_with fail
        refine (HSK.out _ HL1.out).mono ?_
        rintro e w1 ⟨rfl, hb1⟩
        have HB1 := Lib.hid (HB.out.trans (hb1.mono HB.out.size))
        have HOWN1 := Lib.hid (zrow_old HOWN.out hb1)
        have hsz1 := hb1.size
        have hbA : Below w1.heap.size w1 (w1.alloc (.cells #[.int .i64 5, .string ⟨#[]⟩, .int .i64 0, .int .i64 ((n : Int) + (F : Int))] 50)) := (Below.refl _ _).alloc (Nat.le_refl _) _
        have HOWN2 := Lib.hid (zrow_old HOWN1.out hbA)
        have HB2 := Lib.hid (HB1.out.trans (hbA.mono HB1.out.size))
        have HNEW := Lib.hid (OwnAt.new w1 [.int .i64 5, .string ⟨#[]⟩, .int .i64 0, .int .i64 ((n : Int) + (F : Int))] 50)
        clear hb1 hbA
        go_wp2_with (at_builtin; (refine wpList_append_lies (P := Tryz.prog) _ rfl _ _ 46 rfl w.heap.size 50 i0 _ 4 40 Tryz.underlying46 HI0.out HZ0.out HZ1.out HZ2.out rfl (by decide) (.slice oa done.length oc) done.length (done.flatMap tkCells) rfl HOWN2.out ⟨w1.heap.size, 0, none⟩ 1 1 (tkCells ⟨5, [], 0, (n : Int) + (F : Int)⟩) rfl rfl HNEW.out.news (tkCells_one _) (by decide) (by unfold maxLen; omega) (by omega) (by have := HB2.out.size; exact this) _ rfl ?_; intro g cap w11 hown hgrow hat hlt11; have HB11 := Lib.hid (zbelow_grow HB2.out hgrow (fun k e => (HOB.out k e).1) HB2.out.size); have HS := Lib.hid (TksOwn.snoc ⟨5, [], 0, (n : Int) + (F : Int)⟩ hown); clear hown hgrow hat))
        go_ret3
        refine ⟨HB11.out, ?_⟩
        rw [if_pos rfl]
        refine ⟨_, rfl, ?_⟩
        have hs := HS.out
        rw [HN.out, HE.out] at hs
        rw [HA.out] at hs
        rw [← HA.out] at hs ⊢
        exact hs
      | false =>
        obtain ⟨hz0, hbc⟩ := hbad rfl
        have hze : z.isEmpty = false := by simpa using hz0
        have HBC := Lib.hid hbc
        clear hbad hnil hz0 hbc
        go_wp2_with fail
        refine (HSK.out _ HL1.out).mono ?_
        rintro e w1 ⟨rfl, hb1⟩
        have HB1 := Lib.hid (HB.out.trans (hb1.mono HB.out.size))
        have HL2 := Lib.hid (HL1.out.old hb1)
        have HO := Lib.hid (OwnAt.new w1 [.int .i64 0, .string ⟨#[]⟩, .int .i64 0, .int .i64 0] 50)
        have hbA : Below w1.heap.size w1 (w1.alloc (.cells #[.int .i64 0, .string ⟨#[]⟩, .int .i64 0, .int .i64 0] 50)) := (Below.refl _ _).alloc (Nat.le_refl _) _
        have HL3 := Lib.hid (HL2.out.old hbA)
        have HB2 := Lib.hid (HB1.out.trans (hbA.mono HB1.out.size))
        have hge : w.heap.size ≤ w1.heap.size := HB1.out.size
        clear hb1 hbA
        go_wp2_with fail
        refine (HBC.out _ HL3.out).mono ?_
        rintro e w3 ⟨rfl, hb3⟩
        unfold tokV
        have HO3 := Lib.hid (HO.out.old hb3)
        have HB3 := Lib.hid (HB2.out.trans (hb3.mono HB2.out.size))
        clear hb3
        have q0 := HO3.out.at 0 _ rfl
        have f0 := HO3.out.fz 0
        have q1 := HO3.out.at 1 _ rfl
        have f1 := HO3.out.fz 1
        have q2 := HO3.out.at 2 _ rfl
        have f2 := HO3.out.fz 2
        have q3 := HO3.out.at 3 _ rfl
        have f3 := HO3.out.fz 3
        have ql := HO3.out.lt
        go_wp2_with fail
        go_ret3
        refine ⟨zbelow_set (zbelow_set (zbelow_set (zbelow_set HB3.out hge _ _) hge _ _) hge _ _) hge _ _, ?_⟩
        rw [if_neg (by decide), HN.out, HE.out]
        rfl
    | cons i l =>
      obtain ⟨htk, hgi, hil⟩ := hi1
      have hr : itText (i :: l) ++ z = i.x ++ (i.gap ++ (itText l ++ z)) := by rw [itText_cons]; simp
      rw [hr] at HSK hfe
      clear hr
      have hall' : (done ++ [⟨i.k, i.x, i.n, ((n + F : Nat) : Int)⟩]) ++ toks (n + F + feeds (gapText i.b i.l)) l = ALL := by rw [← hall]; simp [toks, It.gap]
      have hend' : endL (n + F + feeds (gapText i.b i.l)) l = END := hend
      have HA := Lib.hid hall'; have HE := Lib.hid hend'; have HGI := Lib.hid hgi; have HIL := Lib.hid hil
      have hxne := htk.ne
      have hzl : (i.x ++ (i.gap ++ (itText l ++ z))).length ≤ 1000000 := by omega
      have HTK : Hid (∀ w1, ZLib w1 → Calls Tryz.prog 41 #[.string (strOf (i.x ++ (i.gap ++ (itText l ++ z))))] w1 fun e w' => e = .returned (.tuple #[tokV i.k i.x i.n 0, .bool true]) ∧ Below w1.heap.size w1 w') := fun w1 h1 => htk.call w1 hzl h1
      clear hall hend hall' hend' hgi hil htk hzl
      have hxp : 0 < i.x.length := List.length_pos_iff.2 hxne
      obtain ⟨q', hq'⟩ : ∃ q', i.gap ++ (itText l ++ z) = q' := ⟨_, rfl⟩
      have HQ' := Lib.hid hq'
      rw [hq'] at HSK hfe HTK
      clear hq' hxne
      have HXD := Lib.hid (ext_drop i.x q')
      have hrl : (i.x ++ q').length = i.x.length + q'.length := List.length_append
      have hre : (i.x ++ q').isEmpty = false := by
        cases hx : i.x with
        | nil => rw [hx] at hxp; simp at hxp
        | cons c t => rfl
      obtain ⟨r, hr⟩ : ∃ r, i.x ++ q' = r := ⟨_, rfl⟩
      rw [hr] at HSK hfe HTK HXD hrl hre
      clear hr
      obtain ⟨xx, hxx⟩ : ∃ xx, i.x = xx := ⟨_, rfl⟩
      rw [hxx] at HXD hrl hxp HTK HA
      obtain ⟨kk, hkk⟩ : ∃ kk, i.k = kk := ⟨_, rfl⟩
      obtain ⟨nn, hnn⟩ : ∃ nn, i.n = nn := ⟨_, rfl⟩
      rw [hkk, hnn] at HTK HA
      clear hxx hkk hnn
      have hx1 : (xx.length : Int) ≤ (r.length : Int) := by omega
      have hx2 : xx.length ≤ r.length := by omega
      go_wp2_with fail
      refine (HSK.out _ HL1.out).mono ?_
      rintro e w1 ⟨rfl, hb1⟩
      have HB1 := Lib.hid (HB.out.trans (hb1.mono HB.out.size))
      have HL2 := Lib.hid (HL1.out.old hb1)
      have HOWN1 := Lib.hid (zrow_old HOWN.out hb1)
      have hsz1 := hb1.size
      have HO := Lib.hid (OwnAt.new w1 [.int .i64 0, .string ⟨#[]⟩, .int .i64 0, .int .i64 0] 50)
      have hbA : Below w1.heap.size w1 (w1.alloc (.cells #[.int .i64 0, .string ⟨#[]⟩, .int .i64 0, .int .i64 0] 50)) := (Below.refl _ _).alloc (Nat.le_refl _) _
      have HL3 := Lib.hid (HL2.out.old hbA)
      have HB2 := Lib.hid (HB1.out.trans (hbA.mono HB1.out.size))
      have HOWN2 := Lib.hid (zrow_old HOWN1.out hbA)
      have hge : w.heap.size ≤ w1.heap.size := HB1.out.size
      clear hb1 hbA
      go_wp2_with fail
      refine (HTK.out _ HL3.out).mono ?_
      rintro e w3 ⟨rfl, hb3⟩
      unfold tokV
      have HO3 := Lib.hid (HO.out.old hb3)
      have HB3 := Lib.hid (HB2.out.trans (hb3.mono HB2.out.size))
      have HOWN3 := Lib.hid (zrow_old HOWN2.out hb3)
      clear hb3
      have q0 := HO3.out.at 0 _ rfl
      have f0 := HO3.out.fz 0
      have q1 := HO3.out.at 1 _ rfl
      have f1 := HO3.out.fz 1
      have q2 := HO3.out.at 2 _ rfl
      have f2 := HO3.out.fz 2
      have q3 := HO3.out.at 3 _ rfl
      have f3 := HO3.out.fz 3
      have ql := HO3.out.lt
      go_upto_region 14 with (fail)
      have HS := Lib.hid (((((HO3.out.set 0 (.int .i64 kk)).set 1 (.string (strOf xx))).set 2 (.int .i64 nn)).set 3 (.int .i64 0)).set 3 (.int .i64 ((n : Int) + (F : Int))))
      have HBS := Lib.hid (zbelow_set (zbelow_set (zbelow_set (zbelow_set (zbelow_set HB3.out hge 0 (.int .i64 kk)) hge 1 (.string (strOf xx))) hge 2 (.int .i64 nn)) hge 3 (.int .i64 0)) hge 3 (.int .i64 ((n : Int) + (F : Int))))
      have hbo : (Value.slice oa done.length oc).ownBlock ≠ some w1.heap.size := fun e => by have := (HOB.out _ e).2; omega
      have HBO := Lib.hid hbo
      have HOS := Lib.hid (zrow_set (zrow_set (zrow_set (zrow_set (zrow_set HOWN3.out hbo 0 (.int .i64 kk)) hbo 1 (.string (strOf xx))) hbo 2 (.int .i64 nn)) hbo 3 (.int .i64 0)) hbo 3 (.int .i64 ((n : Int) + (F : Int))))
      obtain ⟨W, hW⟩ : ∃ W, (((((w3.setCell ⟨w1.heap.size, 0, none⟩ (.int .i64 kk)).setCell ⟨w1.heap.size, 1, none⟩ (.string (strOf xx))).setCell ⟨w1.heap.size, 2, none⟩ (.int .i64 nn)).setCell ⟨w1.heap.size, 3, none⟩ (.int .i64 0)).setCell ⟨w1.heap.size, 3, none⟩ (.int .i64 ((n : Int) + (F : Int)))) = W := ⟨_, rfl⟩
      rw [hW] at HS HBS HOS ⊢
      clear hW q0 f0 q1 f1 q2 f2 q3 f3 ql hbo
      have hbA : Below W.heap.size W (W.alloc (.cells #[.int .i64 kk, .string (strOf xx), .int .i64 nn, .int .i64 ((n : Int) + (F : Int))] 50)) := (Below.refl _ _).alloc (Nat.le_refl _) _
      have HS2 := Lib.hid (HS.out.old hbA)
      have HB5 := Lib.hid (HBS.out.trans (hbA.mono HBS.out.size))
      have HOWN5 := Lib.hid (zrow_old HOS.out hbA)
      have HNEW := Lib.hid (OwnAt.new W [.int .i64 kk, .string (strOf xx), .int .i64 nn, .int .i64 ((n : Int) + (F : Int))] 50)
      have c0 := HS.out.at 0 _ rfl
      have c1 := HS.out.at 1 _ rfl
      have c2 := HS.out.at 2 _ rfl
      have c3 := HS.out.at 3 _ rfl
      have cl := HS.out.lt
      clear hbA
      go_wp2_with (at_builtin; (refine wpList_append_lies (P := Tryz.prog) _ rfl _ _ 46 rfl w.heap.size 50 i0 _ 4 40 Tryz.underlying46 HI0.out HZ0.out HZ1.out HZ2.out rfl (by decide) (.slice oa done.length oc) done.length (done.flatMap tkCells) rfl HOWN5.out ⟨W.heap.size, 0, none⟩ 1 1 (tkCells ⟨kk, xx, nn, (n : Int) + (F : Int)⟩) rfl rfl HNEW.out.news (tkCells_one _) (by decide) (by unfold maxLen; omega) (by omega) (by have := HB5.out.size; exact this) _ rfl ?_; intro g cap w11 hown hgrow hat hlt11; have HB11 := Lib.hid (zbelow_grow HB5.out hgrow (fun k e => (HOB.out k e).1) HB5.out.size); have HS11 := Lib.hid (TksOwn.snoc ⟨kk, xx, nn, (n : Int) + (F : Int)⟩ hown); have y1 := (HS2.out.grow hgrow HBO.out).at 1 _ rfl; have yl := (HS2.out.grow hgrow HBO.out).lt; clear hown hgrow hat))
      have hxd := HXD.out _ hrl.symm
      rw [hxd]
      go_roundw
      case rel =>
        refine ⟨i.b, i.l, n + F, l, done ++ [⟨kk, xx, nn, ((n + F : Nat) : Int)⟩], q', rfl, by rw [← HN.out], HQ'.out.symm, ?_, HGI.out, HIL.out, HA.out, HE.out, by rw [List.length_append, List.length_singleton]; omega, by omega, HB11.out⟩
        have hs := HS11.out
        rw [HN.out] at hs
        exact hs
      case measure => show q'.length < q1.length; omega
end Go.Proofs.YtcfpfnoldgnloaaGreatDoor

namespace Go.Proofs.YtcfpfnoldgnloaaGreatDoor
open Go.RowKit
set_option maxHeartbeats 4000000
set_option maxRecDepth 100000

theorem signE_any (a : Bs) (ha : isSign a = true) (hl : a.length = 1) (w : World) :
    Calls Tryz.prog 94 #[.string (strOf a)] w fun e w' => e = .returned (.tuple #[tokV 4 a 0 0, .bool true]) ∧ Below w.heap.size w w' := by
  have hx1 : (strOf a).extract 0 1 = strOf a := by
    have := ext_take a []
    rw [hl, List.append_nil] at this
    exact this
  have hz1 : a.length = 1 := hl
  have hm : min (2 : Int) (a.length : Int) = 1 := by omega
  have hzI : (a.length : Int) = 1 := by omega
  rcases sign_cases ha with rfl | rfl | rfl | rfl | rfl | rfl | rfl | rfl | rfl | rfl | rfl | rfl | rfl | rfl | rfl | rfl | rfl | rfl | rfl | rfl | rfl | rfl | rfl | rfl | rfl | rfl | rfl
  iterate 6 (simp at hl)
  all_goals
    clear ha hl hz1 hzI hm
    have hm : min (2 : Int) 1 = 1 := by decide
    go_enter Tryz.func94, Tryz.ntmps94
    go_wp2_with fail
    refine wp_loop_rounds 1 ?_
    rw [rounds_succ]
    go_wp2_with fail
    exact bodyPost_ret (v := .tuple #[tokV 4 _ 0 0, .bool true]) (by simp [results, Tryz.results94, go_sem, tokV]) rfl ⟨rfl, (Below.refl _ _).alloc (Nat.le_refl _) _⟩

/-- May this stand behind a token of kind k? -/
def sepB (k : Int) : Bs → Bool
  | [] => true
  | c :: _ => decide (c.toNat < 128) && (if k = 4 then !(c == 61) && !(c == 60) && !(c == 62) && !(c == 47) else if k = 3 then !(digitR (c.toNat : Nat)) else !(wordR (c.toNat : Nat)))
theorem PcOk.noComm {x : Bs} {k n : Int} (h : PcOk x k n) {r : Bs} (hs : sepB k r = true) : Lib.hasPrefix (x ++ r) [47, 47] = false := by
  have key : ∀ (c : UInt8) (t : Bs), c ≠ 47 → Lib.hasPrefix (c :: t) [47, 47] = false := fun c t hc => by
    have h1 : ((47 : UInt8) == c) = false := by rw [beq_eq_false_iff_ne]; exact fun e => hc e.symm
    show ([47, 47] : List UInt8).isPrefixOf (c :: t) = false
    rw [List.isPrefixOf, h1]; rfl
  cases h with
  | name x hx hk c t hc hl ha => rw [hc, List.cons_append]; exact key _ _ (by rintro rfl; simp [isLetter] at hl)
  | word x hk c t hc hl ha => rw [hc, List.cons_append]; exact key _ _ (by rintro rfl; simp [isLetter] at hl)
  | num u hu hi c t hc hd => rw [hc, List.cons_append]; exact key _ _ (by rintro rfl; simp [isDigit] at hd)
  | quote q y => exact key 39 (y ++ [39] ++ r) (by decide)
  | sign x hs' c t hc h7 hn =>
    have key2 : Lib.hasPrefix ([47] ++ r) [47, 47] = false := by
      cases r with
      | nil => rfl
      | cons b r =>
        have hne : b ≠ 47 := by rintro rfl; simp [sepB] at hs
        have h1 : ((47 : UInt8) == b) = false := by rw [beq_eq_false_iff_ne]; exact fun e => hne e.symm
        show ([47, 47] : List UInt8).isPrefixOf (47 :: b :: r) = false
        rw [List.isPrefixOf, List.isPrefixOf, h1]; rfl
    rcases sign_cases hs' with rfl | rfl | rfl | rfl | rfl | rfl | rfl | rfl | rfl | rfl | rfl | rfl | rfl | rfl | rfl | rfl | rfl | rfl | rfl | rfl | rfl | rfl | rfl | rfl | rfl | rfl | rfl <;> first | exact key2 | (rw [List.cons_append]; exact key _ _ (by decide))
theorem tokAt_of {x : Bs} {k n : Int} (h : PcOk x k n) (hq : k = 3 → ∀ r, x ≠ 39 :: r) {r : Bs} (hs : sepB k r = true) : TokAt x k n r := by
  refine ⟨h.ends _, h.noComm hs, h.ne, fun w hz hl => ?_⟩
  have hw : k = 1 ∨ k = 2 → EndsAt wordR r := by
    intro hk
    cases r with
    | nil => exact .inl rfl
    | cons c r =>
      rcases hk with rfl | rfl <;> simp [sepB] at hs <;> exact .inr ⟨c, r, rfl, hs.1, hs.2⟩
  have hd : k = 3 → EndsAt digitR r := by
    rintro rfl
    cases r with
    | nil => exact .inl rfl
    | cons c r => simp [sepB] at hs; exact .inr ⟨c, r, rfl, hs.1, hs.2⟩
  cases h with
  | name x hx hk c t hc hll ha =>
    have hT := fun w1 (_ : Below w.heap.size w w1) => wordT_any x r ha (hw (.inl rfl)) hk hx w1
    rw [hc] at hT ⊢
    exact token_word c (t ++ r) hll (letter_lt hll) 1 (c :: t) 0 w hT
  | word x hk c t hc hll ha =>
    have hT := fun w1 (_ : Below w.heap.size w w1) => wordW_any x r ha (hw (.inr rfl)) hk w1
    rw [hc] at hT ⊢
    exact token_word c (t ++ r) hll (letter_lt hll) 2 (c :: t) 0 w hT
  | num u hu hi c t hc hdd =>
    have hT := fun w1 (hb1 : Below w.heap.size w w1) => numberT_any u r hu hi (hd rfl) w1 (hl.old hb1).lt (hl.old hb1).pow
    rw [hc] at hT ⊢
    exact token_number c (t ++ r) hdd (digit_lt hdd) 3 (c :: t) u w hT
  | quote q y hr1 hr2 hr3 hr4 hr5 hx hdq => exact absurd rfl (hq rfl (y ++ [39]))
  | sign x hs' c t hc h7 hn =>
    cases r with
    | nil =>
      rw [List.append_nil] at hz ⊢
      by_cases h1 : x.length = 1
      · have hT := fun w1 (_ : Below w.heap.size w w1) => signE_any x hs' h1 w1
        rw [hc] at hT ⊢
        exact token_sign c t hn h7 4 (c :: t) 0 w hT
      · have hT := fun w1 (_ : Below w.heap.size w w1) => signT_any x [] hs' (fun e => absurd e h1) w1
        rw [List.append_nil] at hT
        rw [hc] at hT ⊢
        exact token_sign c t hn h7 4 (c :: t) 0 w hT
    | cons b r =>
      have hT := fun w1 (_ : Below w.heap.size w w1) => signT_any x (b :: r) hs' (fun _ => ⟨b, r, rfl, by simp [sepB] at hs; simp [hs], by simp [sepB] at hs; simp [hs], by simp [sepB] at hs; simp [hs]⟩) w1
      rw [hc] at hT ⊢
      exact token_sign c (t ++ b :: r) hn h7 4 (c :: t) 0 w hT
/-- A list of tokens whose neighbours may stand there. -/
theorem ItsOk.of_sep (z : Bs) : ∀ (l : List It), (∀ i, i ∈ l → PcOk i.x i.k i.n ∧ (i.k = 3 → ∀ r, i.x ≠ 39 :: r) ∧ GapOk i.b i.l) → (∀ i r, (i :: r) <:+ l → sepB i.k (i.gap ++ (itText r ++ z)) = true) → ItsOk z l
  | [], _, _ => trivial
  | i :: l, h, hs => ⟨tokAt_of (h i List.mem_cons_self).1 (h i List.mem_cons_self).2.1 (hs i l (List.suffix_refl _)), (h i List.mem_cons_self).2.2, ItsOk.of_sep z l (fun j hj => h j (List.mem_cons_of_mem _ hj)) (fun j r hr => hs j r (hr.trans (List.suffix_cons _ _)))⟩
end Go.Proofs.YtcfpfnoldgnloaaGreatDoor

namespace Go.Proofs.YtcfpfnoldgnloaaGreatDoor
open Go.RowKit
set_option maxHeartbeats 4000000
set_option maxRecDepth 100000

theorem ygap_nil : GapOk [] [] := ⟨fun c hc => (by cases hc), fun p hp => (by cases hp)⟩
theorem ytail_nil : TailOk true [] := ⟨.inl rfl, rfl, fun _ => rfl, fun h => (by cases h)⟩
theorem ends_snoc (t : Tk) (h : t.kind = 5) : ∀ l : List Tk, EndsTk (l ++ [t])
  | [] => h
  | [a] => h
  | a :: b :: l => ends_snoc t h (b :: l)
/-- The tokens that Scan gives, the last one the end. -/
def scanned (line : Nat) (li : List It) : List Tk := toks line li ++ [⟨5, [], 0, endL line li⟩]
theorem toks_num {P : Int → Prop} : ∀ (l : List It) (line : Nat), (∀ i, i ∈ l → P i.n) → ∀ t, t ∈ toks line l → P t.num
  | [], line, h, t, ht => by cases ht
  | i :: l, line, h, t, ht => by
    rw [toks] at ht
    rcases List.mem_cons.1 ht with rfl | ht
    · exact h i List.mem_cons_self
    · exact toks_num l _ (fun j hj => h j (List.mem_cons_of_mem _ hj)) t ht
theorem scan_its (b0 : Bs) (l0 : List (Bs × Bs)) (hg : GapOk b0 l0) (li : List It) (hi : ItsOk [] li) (hlen : (gapText b0 l0 ++ itText li).length ≤ 20000) (w : World) (hl : ZLib w) :
    Calls Tryz.prog 20 #[.string (strOf (gapText b0 l0 ++ itText li))] w fun e w' => Below w.heap.size w w' ∧ ∃ v, e = .returned (.tuple #[v, .int .i64 0, .int .i64 0]) ∧ TksOwn w' w.heap.size (scanned (1 + feeds (gapText b0 l0)) li) v := by
  have h := scan_any true [] ytail_nil b0 l0 hg li hi (by simpa using hlen) w hl
  rw [List.append_nil] at h
  refine Calls.mono h ?_
  intro e w' hp
  obtain ⟨h1, h2⟩ := hp
  rw [if_pos rfl] at h2
  exact ⟨h1, h2⟩
theorem parse_its (b0 : Bs) (l0 : List (Bs × Bs)) (hg : GapOk b0 l0) (li : List It) (hi : ItsOk [] li) (hn : ∀ i, i ∈ li → I64 i.n) (hlen : (gapText b0 l0 ++ itText li).length ≤ 20000) (hc : li.length ≤ 900000) (f : Nat) (hf : 4 * (li.length + 1) + 4 ≤ f) (w : World) (hl : ZLib w) :
    Calls Tryz.prog 14 #[.string (strOf (gapText b0 l0 ++ itText li))] w (WhP w (finP (outP (progP f ⟨[], []⟩ (scanned (1 + feeds (gapText b0 l0)) li))))) := by
  have hT : (scanned (1 + feeds (gapText b0 l0)) li).length = li.length + 1 := by simp [scanned, toks_len]
  refine topP_of _ w _ (Lib.hid fun w1 hb1 => ?_)
  refine wholeP_ok _ (scanned (1 + feeds (gapText b0 l0)) li) (ends_snoc _ rfl _) ?_ (by omega) f (by omega) w1 (Lib.hid fun w2 hb2 => scan_its b0 l0 hg li hi hlen w2 ((hl.old hb1).old hb2))
  intro t ht
  rcases List.mem_append.1 ht with h | h
  · exact toks_num (P := I64) li _ hn t h
  · rw [List.mem_singleton] at h; subst h; exact yi64_0
theorem expr_its (b0 : Bs) (l0 : List (Bs × Bs)) (hg : GapOk b0 l0) (li : List It) (hi : ItsOk [] li) (hn : ∀ i, i ∈ li → I64 i.n) (hlen : (gapText b0 l0 ++ itText li).length ≤ 20000) (hc : li.length ≤ 900000) (f : Nat) (hf : 4 * (li.length + 1) + 4 ≤ f) (w : World) (hl : ZLib w) :
    Calls Tryz.prog 13 #[.string (strOf (gapText b0 l0 ++ itText li))] w (WhE w (finE (outE (climbP f 1 (scanned (1 + feeds (gapText b0 l0)) li))))) := by
  have hT : (scanned (1 + feeds (gapText b0 l0)) li).length = li.length + 1 := by simp [scanned, toks_len]
  refine topE_of _ w _ (Lib.hid fun w1 hb1 => ?_)
  refine wholeE_ok _ (scanned (1 + feeds (gapText b0 l0)) li) (ends_snoc _ rfl _) ?_ (by omega) f (by omega) w1 (Lib.hid fun w2 hb2 => scan_its b0 l0 hg li hi hlen w2 ((hl.old hb1).old hb2))
  intro t ht
  rcases List.mem_append.1 ht with h | h
  · exact toks_num (P := I64) li _ hn t h
  · rw [List.mem_singleton] at h; subst h; exact yi64_0

/-- A name, a word, a sign; a text's tokens, looked through. -/
def wordyB (x : Bs) : Bool := (match x with | c :: _ => isLetter c | [] => false) && x.all (fun c => decide (c.toNat < 128) && wordR (c.toNat : Nat))
theorem wordyB_of {x : Bs} (h : wordyB x = true) : ∃ c t, x = c :: t ∧ isLetter c = true ∧ ∀ c, c ∈ x → c.toNat < 128 ∧ wordR (c.toNat : Nat) = true := by
  cases x with
  | nil => cases h
  | cons c t =>
    unfold wordyB at h
    obtain ⟨h1, h2⟩ := (Bool.and_eq_true _ _).mp h
    refine ⟨c, t, rfl, h1, fun d hd => ?_⟩
    have := List.all_eq_true.1 h2 d hd
    simpa using this
theorem pc_name {x : Bs} (hx : isName x = true) (hk : isWord x = false) (h : wordyB x = true) : PcOk x 1 0 := by
  obtain ⟨c, t, hc, hl, ha⟩ := wordyB_of h
  exact .name x hx hk c t hc hl ha
theorem pc_word {x : Bs} (hk : isWord x = true) (h : wordyB x = true) : PcOk x 2 0 := by
  obtain ⟨c, t, hc, hl, ha⟩ := wordyB_of h
  exact .word x hk c t hc hl ha
theorem pc_sign {x : Bs} (h : isSign x = true) : PcOk x 4 0 := by
  rcases sign_cases h with rfl | rfl | rfl | rfl | rfl | rfl | rfl | rfl | rfl | rfl | rfl | rfl | rfl | rfl | rfl | rfl | rfl | rfl | rfl | rfl | rfl | rfl | rfl | rfl | rfl | rfl | rfl <;> exact .sign _ h _ _ rfl (by decide) (by decide)
def pcB (i : It) : Bool := if i.k = 1 then isName i.x && !isWord i.x && wordyB i.x && decide (i.n = 0) else if i.k = 2 then isWord i.x && wordyB i.x && decide (i.n = 0) else if i.k = 3 then decide (0 ≤ i.n ∧ i.n ≤ 9223372036854775807) && decide (i.x = Lib.decDigits i.n.toNat) && decide (i.x.length ≤ 18) && (match i.x with | c :: _ => isDigit c | [] => false) else decide (i.k = 4) && isSign i.x && decide (i.n = 0)
theorem pcB_of {i : It} (h : pcB i = true) : PcOk i.x i.k i.n ∧ (i.k = 3 → ∀ r, i.x ≠ 39 :: r) ∧ I64 i.n := by
  obtain ⟨x, k, n, b, l⟩ := i
  simp only [pcB] at h
  by_cases h1 : k = 1
  · rw [if_pos h1] at h
    simp at h
    obtain ⟨⟨⟨g1, g2⟩, g3⟩, rfl⟩ := h
    subst h1
    exact ⟨pc_name g1 g2 g3, fun e => absurd (show _ = _ from e) (by simp), yi64_0⟩
  rw [if_neg h1] at h
  by_cases h2 : k = 2
  · rw [if_pos h2] at h
    simp at h
    obtain ⟨⟨g1, g3⟩, rfl⟩ := h
    subst h2
    exact ⟨pc_word g1 g3, fun e => absurd (show _ = _ from e) (by simp), yi64_0⟩
  rw [if_neg h2] at h
  by_cases h3 : k = 3
  · rw [if_pos h3] at h
    subst h3
    simp only [Bool.and_eq_true, decide_eq_true_eq] at h
    obtain ⟨⟨⟨⟨g1, g2⟩, g3⟩, g4⟩, g5⟩ := h
    cases x with
    | nil => cases g5
    | cons c t =>
      have hu : (n.toNat : Int) = n := by omega
      refine ⟨?_, fun _ r e => ?_, (show I64 n from ⟨by omega, by omega⟩)⟩
      · have := PcOk.num n.toNat (by rw [← g3]; exact Nat.le_trans g4 (by decide)) (by omega) c t g3.symm g5
        rw [← g3, hu] at this
        exact this
      · cases e; simp [isDigit] at g5
  rw [if_neg h3] at h
  simp at h
  obtain ⟨⟨rfl, g1⟩, rfl⟩ := h
  exact ⟨pc_sign g1, fun e => absurd (show _ = _ from e) (by simp), yi64_0⟩
def itsB (z : Bs) : List It → Bool
  | [] => true
  | i :: l => pcB i && i.b.all isBlank && i.l.isEmpty && sepB i.k (i.gap ++ (itText l ++ z)) && itsB z l
theorem itsB_of (z : Bs) : ∀ (l : List It), itsB z l = true → ItsOk z l ∧ ∀ i, i ∈ l → I64 i.n
  | [], _ => ⟨trivial, fun i hi => by cases hi⟩
  | i :: l, h => by
    rw [itsB] at h
    simp only [Bool.and_eq_true] at h
    obtain ⟨⟨⟨⟨h1, h2⟩, h3⟩, h4⟩, h5⟩ := h
    obtain ⟨q1, q2⟩ := itsB_of z l h5
    obtain ⟨p1, p2, p3⟩ := pcB_of h1
    refine ⟨⟨tokAt_of p1 p2 h4, ⟨fun c hc => List.all_eq_true.1 h2 c hc, fun p hp => ?_⟩, q1⟩, fun j hj => ?_⟩
    · rw [List.isEmpty_iff.1 h3] at hp; cases hp
    · rcases List.mem_cons.1 hj with rfl | hj
      · exact p3
      · exact q2 j hj
end Go.Proofs.YtcfpfnoldgnloaaGreatDoor

namespace Go.Proofs.YtcfpfnoldgnloaaGreatDoor

/-- Texts with a comma between. -/
def sepText : List Bs → Bs
  | [] => []
  | x :: l => x ++ l.flatMap (fun y => [44, 32] ++ y)
theorem sepText_snoc (l : List Bs) (y : Bs) : sepText (l ++ [y]) = if l = [] then y else sepText l ++ [44, 32] ++ y := by
  cases l with
  | nil => simp [sepText]
  | cons x l => simp [sepText]
def wrapPart (e : Ex) (level : Int) (txt : Bs) : Bs := if e.kind = 4 ∧ levelOf e.op < level then [40] ++ txt ++ [41] else txt
def exShape (k o n : Int) (nm : Bs) (args : List Ex) (ts : List Bs) : Bs :=
  if k = 1 then Lib.itoa n
  else if k = 2 then nm
  else if k = 3 then signOf o ++ wrapPart (exAt args 0) 9 (ts.getD 0 [])
  else if k = 4 then wrapPart (exAt args 0) (levelOf o) (ts.getD 0 []) ++ ([32] ++ signOf o ++ [32]) ++ wrapPart (exAt args 1) (levelOf o + 1) (ts.getD 1 [])
  else if k = 5 then nm ++ [40] ++ sepText ts ++ [41]
  else if k = 6 then nm ++ [91] ++ ts.getD 0 [] ++ [93]
  else if k = 7 then [114, 101, 97, 100, 40, 41] else []
mutual
def exText : Ex → Bs
  | .mk k o n nm args => exShape k o n nm args (exTexts args)
def exTexts : List Ex → List Bs
  | [] => []
  | x :: l => exText x :: exTexts l
end
theorem exTexts_eq : ∀ l, exTexts l = l.map exText
  | [] => rfl
  | x :: l => by simp [exTexts, exTexts_eq l]
theorem exText_eq (e : Ex) : exText e = exShape e.kind e.op e.n e.name e.args (e.args.map exText) := by
  cases e; rw [exText, exTexts_eq]; rfl
def partText (e : Ex) (level : Int) : Bs := wrapPart e level (exText e)
theorem getD_map {l : List Ex} {i : Nat} (h : i < l.length) : (l.map exText).getD i [] = exText (exAt l i) := by
  simp [exAt, List.getElem?_eq_getElem h]
theorem exText_1 (o n : Int) (nm : Bs) (args : List Ex) : exText (.mk 1 o n nm args) = Lib.itoa n := by
  rw [exText_eq]; show exShape 1 o n nm args (args.map exText) = _; unfold exShape; rw [if_pos rfl]
theorem exText_2 (o n : Int) (nm : Bs) (args : List Ex) : exText (.mk 2 o n nm args) = nm := by
  rw [exText_eq]; show exShape 2 o n nm args (args.map exText) = _; unfold exShape; rw [if_neg (by decide), if_pos rfl]
theorem exText_3 (o n : Int) (nm : Bs) (args : List Ex) (h : 0 < args.length) : exText (.mk 3 o n nm args) = signOf o ++ partText (exAt args 0) 9 := by
  rw [exText_eq]; show exShape 3 o n nm args (args.map exText) = _; unfold exShape
  rw [if_neg (by decide), if_neg (by decide), if_pos rfl, getD_map h]; unfold partText; rfl
theorem exText_4 (o n : Int) (nm : Bs) (args : List Ex) (h : 1 < args.length) : exText (.mk 4 o n nm args) = partText (exAt args 0) (levelOf o) ++ ([32] ++ (signOf o ++ [32])) ++ partText (exAt args 1) (levelOf o + 1) := by
  rw [exText_eq]; show exShape 4 o n nm args (args.map exText) = _; unfold exShape
  rw [if_neg (by decide), if_neg (by decide), if_neg (by decide), if_pos rfl, getD_map (by omega), getD_map h, List.append_assoc [32]]; unfold partText; rfl
theorem exText_5 (o n : Int) (nm : Bs) (args : List Ex) : exText (.mk 5 o n nm args) = nm ++ [40] ++ sepText (args.map exText) ++ [41] := by
  rw [exText_eq]; show exShape 5 o n nm args (args.map exText) = _; unfold exShape
  rw [if_neg (by decide), if_neg (by decide), if_neg (by decide), if_neg (by decide), if_pos rfl]
theorem exText_6 (o n : Int) (nm : Bs) (args : List Ex) (h : 0 < args.length) : exText (.mk 6 o n nm args) = nm ++ [91] ++ exText (exAt args 0) ++ [93] := by
  rw [exText_eq]; show exShape 6 o n nm args (args.map exText) = _; unfold exShape
  rw [if_neg (by decide), if_neg (by decide), if_neg (by decide), if_neg (by decide), if_neg (by decide), if_pos rfl, getD_map h]
theorem exText_7 (o n : Int) (nm : Bs) (args : List Ex) : exText (.mk 7 o n nm args) = [114, 101, 97, 100, 40, 41] := by
  rw [exText_eq]; show exShape 7 o n nm args (args.map exText) = _; unfold exShape
  rw [if_neg (by decide), if_neg (by decide), if_neg (by decide), if_neg (by decide), if_neg (by decide), if_neg (by decide), if_pos rfl]
end Go.Proofs.YtcfpfnoldgnloaaGreatDoor
