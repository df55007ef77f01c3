/-
  Letters, digits, words and names: what scan's functions answer. No condition.
  The operators' rows, signs and levels: what arith.rowOf, Sign and Level answer. No condition.
  The library's searches by a function, at this program's types: what they answer. Conditions: the elements' cells are known; the function answers a bool and changes nothing that is there.
-/
import Derived.Test.YtcfpfnoldgnloaaGreatDoorTreeA
import Derived.Laws.RangeAny
set_option linter.unusedVariables false
set_option linter.unusedSimpArgs false
namespace Go.Proofs.YtcfpfnoldgnloaaGreatDoor
open Go.RowKit
set_option maxHeartbeats 1000000
set_option maxRecDepth 20000

def letterR (r : Int) : Bool := decide (r = 95 ∨ (97 ≤ r ∧ r ≤ 122) ∨ (65 ≤ r ∧ r ≤ 90))
def digitR (r : Int) : Bool := decide (48 ≤ r ∧ r ≤ 57)

theorem letter_any (r : Int) (w : World) :
    Calls Tryz.prog 89 #[.int .i32 r] w fun e w' => e = .returned (.bool (letterR r)) ∧ w = w' := by
  go_enter Tryz.func89, Tryz.ntmps89
  go_wp2
  all_goals go_ret
  all_goals (refine ⟨ret_bool ?_, rfl⟩; rw [Bool.eq_iff_iff]; simp [letterR]; omega)

theorem digit_any (r : Int) (w : World) :
    Calls Tryz.prog 91 #[.int .i32 r] w fun e w' => e = .returned (.bool (digitR r)) ∧ w = w' := by
  go_enter Tryz.func91, Tryz.ntmps91
  go_wp2
  all_goals go_ret
  all_goals (refine ⟨ret_bool ?_, rfl⟩; rw [Bool.eq_iff_iff]; simp [digitR]; omega)

theorem word_any (l : Bs) (w : World) :
    Calls Tryz.prog 144 #[.string (strOf l)] w fun e w' => e = .returned (.bool (isWord l)) ∧ w = w' := by
  go_enter Tryz.func144, Tryz.ntmps144
  go_wp2
  all_goals go_ret
  all_goals (refine ⟨ret_bool ?_, rfl⟩; simp_all [isWord, wordList])

theorem letterR_of (c : UInt8) : letterR (c.toNat : Nat) = isLetter c := by
  rw [Bool.eq_iff_iff]; simp [letterR, isLetter, UInt8.le_iff_toNat_le, ← UInt8.toNat_inj]; omega
theorem digitR_of (c : UInt8) : digitR (c.toNat : Nat) = isDigit c := by
  rw [Bool.eq_iff_iff]; simp [digitR, isDigit, UInt8.le_iff_toNat_le]; omega
theorem letterR_high {r : Nat} (h : 128 ≤ r) : letterR r = false := by simp [letterR]; omega
theorem digitR_high {r : Nat} (h : 128 ≤ r) : digitR r = false := by simp [digitR]; omega
theorem isLetter_high {c : UInt8} (h : 128 ≤ c.toNat) : isLetter c = false := by rw [← letterR_of]; exact letterR_high h
theorem isDigit_high {c : UInt8} (h : 128 ≤ c.toNat) : isDigit c = false := by rw [← digitR_of]; exact digitR_high h
/-- What a range over a text gives at a place: the byte, or a rune of 128 and above. -/
theorem decode_at (l : Bs) (k : Nat) (h : k < l.length) : ∃ r d, Utf8.decode (strOf l) k = (r, d) ∧ 1 ≤ d ∧ letterR r = isLetter l[k] ∧ digitR r = isDigit l[k] ∧ (r < 128 → r = l[k].toNat ∧ d = 1) ∧ r ≤ 2147483647 := by
  have hs : k < (strOf l).size := h
  have he : (strOf l)[k]'hs = l[k] := rfl
  have hle := decode_le (strOf l) k
  by_cases ha : ((strOf l)[k]'hs).toNat < 128
  · rw [decode_ascii _ _ hs ha] at hle
    exact ⟨_, _, decode_ascii _ _ hs ha, Nat.le_refl _, by rw [he]; exact letterR_of _, by rw [he]; exact digitR_of _, fun _ => ⟨by rw [he], rfl⟩, hle⟩
  · have hh := decode_high (strOf l) k hs (by omega)
    have h2 : 128 ≤ l[k].toNat := by rw [← he]; omega
    generalize Utf8.decode (strOf l) k = q at hh hle ⊢
    exact ⟨q.1, q.2, rfl, hh.2, by rw [letterR_high hh.1, isLetter_high h2], by rw [digitR_high hh.1, isDigit_high h2], fun h => by omega, hle⟩
theorem letterR_low {r : Nat} (h : letterR r = true) : r < 128 := by simp [letterR] at h; omega
theorem digitR_low {r : Nat} (h : digitR r = true) : r < 128 := by simp [digitR] at h; omega

theorem name_loop (l : Bs) (h20 : l.length ≤ 20) (h0 : l.isEmpty = false) (hw : isWord l = false) (w : World) :
    Calls Tryz.prog 112 #[.string (strOf l)] w fun e w' => e = .returned (.bool (isNameAt true l)) ∧ Below w.heap.size w w' := by
  go_enter Tryz.func112, Tryz.ntmps112
  go_wp2_with (go_at_call 144; refine (word_any _ _).mono ?_; rintro e w1 ⟨rfl, rfl⟩)
  go_loopw [3, 4] (fun _ _ wr => ∃ k : Nat, k ≤ l.length ∧ wr = w.iter (strOf l) k ∧ Hid (isNameAt true l = isNameAt (decide (k = 0)) (l.drop k))) (fun _ _ wr => l.length - wr.iterPos w.heap.size)
  case atStart => exact ⟨0, Nat.zero_le _, rfl, rfl⟩
  case round =>
    obtain ⟨k, hk, rfl, HI⟩ := hrel
    by_cases hlt : k < l.length
    · have hnx := fun ty => run_next_any (P := Tryz.prog) w (strOf l) k ty hlt
      obtain ⟨r, d, hd, h1, hl, hdg, hlow, hr⟩ := decode_at l k hlt
      rw [hd] at hnx
      have HL := Lib.hid hl; have HD := Lib.hid hdg; have HLOW := Lib.hid hlow
      have HE : Hid (isNameAt (decide (k = 0)) (l.drop k) = ((isLetter l[k] || (!decide (k = 0) && isDigit l[k])) && isNameAt false (l.drop (k + 1)))) := by
        show _ = _
        rw [List.drop_eq_getElem_cons hlt]; rfl
      clear hl hdg hlow hd
      by_cases q : letterR r = true
      · go_wp2_with (go_at_call 89; refine (letter_any _ _).mono ?_; rintro e w1 ⟨rfl, rfl⟩)
        have h3 := HLOW.out (letterR_low q)
        obtain rfl := h3.2
        go_roundw
        case rel => exact ⟨k + 1, by omega, rfl, by show _ = _; rw [HI.out, HE.out, ← HL.out, q]; simp⟩
        case measure => simp; omega
      · have q' : letterR r = false := by simpa using q
        clear q
        by_cases z : k = 0
        · subst z
          go_wp2_with (go_at_call 89; refine (letter_any _ _).mono ?_; rintro e w1 ⟨rfl, rfl⟩)
          go_ret
          exact ⟨ret_bool (by rw [HI.out, HE.out, ← HL.out, q']; simp), (Below.refl _ _).alloc (Nat.le_refl _) _⟩
        · have z' : ((k : Int) == 0) = false := by simpa using z
          by_cases g : digitR r = true
          · go_wp2_with (first | (go_at_call 89; refine (letter_any _ _).mono ?_; rintro e w1 ⟨rfl, rfl⟩) | (go_at_call 91; refine (digit_any _ _).mono ?_; rintro e w1 ⟨rfl, rfl⟩))
            have h3 := HLOW.out (digitR_low g)
            obtain rfl := h3.2
            go_roundw
            case rel => exact ⟨k + 1, by omega, rfl, by show _ = _; rw [HI.out, HE.out, ← HL.out, ← HD.out, q', g]; simp [z]⟩
            case measure => simp; omega
          · have g' : digitR r = false := by simpa using g
            clear g
            go_wp2_with (first | (go_at_call 89; refine (letter_any _ _).mono ?_; rintro e w1 ⟨rfl, rfl⟩) | (go_at_call 91; refine (digit_any _ _).mono ?_; rintro e w1 ⟨rfl, rfl⟩))
            go_ret
            exact ⟨ret_bool (by rw [HI.out, HE.out, ← HL.out, ← HD.out, q', g']; simp), (Below.refl _ _).alloc (Nat.le_refl _) _⟩
    · have hnx := fun ty => run_next_end (P := Tryz.prog) w (strOf l) k ty hlt
      go_wp2_with fail
      go_ret
      exact ⟨ret_bool (by rw [HI.out, List.drop_eq_nil_of_le (by omega)]; rfl), (Below.refl _ _).alloc (Nat.le_refl _) _⟩

theorem name_any (l : Bs) (w : World) :
    Calls Tryz.prog 112 #[.string (strOf l)] w fun e w' => e = .returned (.bool (isName l)) ∧ Below w.heap.size w w' := by
  by_cases h0 : l = []
  · subst h0
    go_enter Tryz.func112, Tryz.ntmps112
    go_wp2_with fail
    go_ret
    exact ⟨rfl, Below.refl _ _⟩
  · have h0' : l.isEmpty = false := by simpa using h0
    by_cases h20 : l.length ≤ 20
    · cases hw : isWord l
      · have h := name_loop l h20 h0' hw w
        have e : isName l = isNameAt true l := by simp [isName, h0, h20, hw]
        rw [e]; exact h
      · go_enter Tryz.func112, Tryz.ntmps112
        go_wp2_with (go_at_call 144; refine (word_any _ _).mono ?_; rintro e w1 ⟨rfl, rfl⟩)
        go_ret
        exact ⟨ret_bool (by simp [isName, hw]), Below.refl _ _⟩
    · have h20' : 20 < l.length := by omega
      go_enter Tryz.func112, Tryz.ntmps112
      go_wp2_with fail
      go_ret
      exact ⟨ret_bool (by simp [isName, h20]), Below.refl _ _⟩
end Go.Proofs.YtcfpfnoldgnloaaGreatDoor

namespace Go.Proofs.YtcfpfnoldgnloaaGreatDoor
open Go.RowKit
set_option maxHeartbeats 1000000
set_option maxRecDepth 20000

theorem row_eq {s : ByteArray} {l op : Int} {F1 F2 : Value} (hs : s = strOf (signOf op)) (hl : l = levelOf op) :
    ∃ f1 f2, Ending.returned (.agg #[.string s, .int .i64 l, F1, F2]) = .returned (.agg #[.string (strOf (signOf op)), .int .i64 (levelOf op), f1, f2]) := by
  subst hs hl; exact ⟨_, _, rfl⟩
theorem rowOf_any (op : Int) (w : World) :
    Calls Tryz.prog 128 #[.int .i64 op] w fun e w' => (∃ f1 f2, e = .returned (.agg #[.string (strOf (signOf op)), .int .i64 (levelOf op), f1, f2])) ∧ Below w.heap.size w w' := by
  go_enter Tryz.func128, Tryz.ntmps128
  go_wp2
  all_goals (refine bodyPost_ret (by simp [results, Tryz.results128, go_sem]; rfl) rfl ?_)
  all_goals (refine ⟨row_eq ?_ ?_, by repeat (first | exact Below.refl _ _ | refine Below.alloc ?_ (Nat.le_refl _) _)⟩)
  all_goals (simp only [beq_iff_eq, beq_eq_false_iff_ne, ne_eq] at *; simp [signOf, levelOf, strOf, *])

@[go_sem] theorem field_row0 (a b c d : Value) (w : World) : (Instr.field 157 (.agg #[a, b, c, d]) 0).run Tryz.prog w = .ok a w := by kernel_rfl
@[go_sem] theorem field_row1 (a b c d : Value) (w : World) : (Instr.field 157 (.agg #[a, b, c, d]) 1).run Tryz.prog w = .ok b w := by kernel_rfl

theorem level_any (op : Int) (w : World) :
    Calls Tryz.prog 74 #[.int .i64 op] w fun e w' => e = .returned (.int .i64 (levelOf op)) ∧ Below w.heap.size w w' := by
  go_enter Tryz.func74, Tryz.ntmps74
  go_wp2_with fail
  refine (rowOf_any op _).mono ?_
  rintro e w1 ⟨⟨f1, f2, rfl⟩, hb⟩
  go_wp2_with fail
  go_ret
  exact ⟨rfl, hb⟩

theorem sign_any (op : Int) (w : World) :
    Calls Tryz.prog 71 #[.int .i64 op] w fun e w' => e = .returned (.tuple #[.string (strOf (signOf op)), .bool (!(signOf op).isEmpty)]) ∧ Below w.heap.size w w' := by
  go_enter Tryz.func71, Tryz.ntmps71
  go_wp2_with fail
  refine (rowOf_any op _).mono ?_
  rintro e w1 ⟨⟨f1, f2, rfl⟩, hb⟩
  go_wp2_with fail
  go_ret2
  exact ⟨by simp [strOf], hb⟩
end Go.Proofs.YtcfpfnoldgnloaaGreatDoor

namespace Go.Proofs.YtcfpfnoldgnloaaGreatDoor
open Go.RowKit
set_option maxHeartbeats 400000
set_option maxRecDepth 20000

/-- slices.IndexFunc over a slice that is not nil. -/
theorem indexFuncE (b off n cap : Nat) (k : FuncId) (caps : Array Value) (hk : ∀ args w, (callFunc k args).run Tryz.prog w = .ok (.enter k args) w) (w : World) (c0 c1 c2 c3 c4 : Nat → Value) (p : Nat → Bool) (hn : n ≤ 140737488355328)
    (hc : ∀ i, i < n → w.cell? ⟨b, off + i * 5, none⟩ = some (c0 i) ∧ w.cell? ⟨b, off + i * 5 + 1, none⟩ = some (c1 i) ∧ w.cell? ⟨b, off + i * 5 + 2, none⟩ = some (c2 i) ∧ w.cell? ⟨b, off + i * 5 + 3, none⟩ = some (c3 i) ∧ w.cell? ⟨b, off + i * 5 + 4, none⟩ = some (c4 i))
    (hf : ∀ i, i < n → ∀ w1, Below w.heap.size w w1 → Calls Tryz.prog k (#[.agg #[c0 i, c1 i, c2 i, c3 i, c4 i]] ++ caps) w1 fun e w2 => e = .returned (.bool (p i)) ∧ Below w1.heap.size w1 w2) :
    Calls Tryz.prog 164 #[.slice (some ⟨b, off, none⟩) n cap, .func (.func k) #[] caps] w fun e w' => e = .returned (.int .i64 (firstN p n)) ∧ Below w.heap.size w w' := by
  have HF := Lib.hid hf; clear hf
  have HC := Lib.hid hc; clear hc
  have hn1 : n < 9223372036854775807 := by omega
  clear hn
  go_enter Tryz.func164, Tryz.ntmps164
  go_wp2_with fail
  go_loopw [5, 8] (fun _ i8 wr => ∃ j : Nat, j ≤ n ∧ i8 = .int .i64 j ∧ (∀ i, i < j → p i = false) ∧ Below w.heap.size w wr) (fun _ i8 _ => n - (intOf i8).toNat)
  case atStart => exact ⟨0, Nat.zero_le _, rfl, fun i hi => by omega, Below.refl _ _⟩
  case round =>
    obtain ⟨j, hj, rfl, hno, hb⟩ := hrel
    have HNO := Lib.hid hno; clear hno
    by_cases hlt : j < n
    · obtain ⟨g0, g1, g2, g3, g4⟩ := HC.out j hlt
      have k0 := below_keeps hb g0
      have k1 := below_keeps hb g1
      have k2 := below_keeps hb g2
      have k3 := below_keeps hb g3
      have k4 := below_keeps hb g4
      clear g0 g1 g2 g3 g4
      have call := HF.out j hlt wr hb
      have HB := Lib.hid hb; clear hb
      have HCALL := Lib.hid call; clear call
      go_wp2_with fail
      refine HCALL.out.mono ?_
      cases hp : p j
      · rintro e w2 ⟨rfl, hb2⟩
        have HP := Lib.hid hp; clear hp
        go_wp2_with fail
        go_roundw
        case rel => exact ⟨j + 1, by omega, by go_num, fun i hi => by rcases Nat.lt_succ_iff_lt_or_eq.1 hi with h | rfl; exact HNO.out i h; exact HP.out, HB.out.trans (hb2.mono HB.out.size)⟩
        case measure => simp [intOf]; omega
      · rintro e w2 ⟨rfl, hb2⟩
        have HP := Lib.hid hp; clear hp
        go_wp2_with fail
        go_ret
        exact ⟨ret_int (firstN_at p j HP.out HNO.out n hlt).symm, HB.out.trans (hb2.mono HB.out.size)⟩
    · have hje : n ≤ j := by omega
      have HB := Lib.hid hb; clear hb
      go_wp2_with fail
      go_ret
      exact ⟨ret_int (firstN_none p n (fun i hi => HNO.out i (by omega))).symm, HB.out⟩

/-- The same over an empty one. -/
theorem indexFuncE0 (a : Option Addr) (cap : Nat) (f : Value) (w : World) :
    Calls Tryz.prog 164 #[.slice a 0 cap, f] w fun e w' => e = .returned (.int .i64 (-1)) ∧ Below w.heap.size w w' := by
  go_enter Tryz.func164, Tryz.ntmps164
  go_wp2_with fail
  refine wp_loop_rounds 1 ?_
  rw [rounds_succ]
  go_wp2_with fail
  go_ret
  exact ⟨rfl, Below.refl _ _⟩

/-- slices.ContainsFunc: whether the function says yes to some element. -/
theorem containsFuncE (a : Option Addr) (n cap : Nat) (k : FuncId) (caps : Array Value) (hk : ∀ args w, (callFunc k args).run Tryz.prog w = .ok (.enter k args) w) (w : World) (c0 c1 c2 c3 c4 : Nat → Value) (p : Nat → Bool) (hn : n ≤ 140737488355328)
    (hc : n = 0 ∨ ∃ b off, a = some ⟨b, off, none⟩ ∧ ∀ i, i < n → w.cell? ⟨b, off + i * 5, none⟩ = some (c0 i) ∧ w.cell? ⟨b, off + i * 5 + 1, none⟩ = some (c1 i) ∧ w.cell? ⟨b, off + i * 5 + 2, none⟩ = some (c2 i) ∧ w.cell? ⟨b, off + i * 5 + 3, none⟩ = some (c3 i) ∧ w.cell? ⟨b, off + i * 5 + 4, none⟩ = some (c4 i))
    (hf : ∀ i, i < n → ∀ w1, Below w.heap.size w w1 → Calls Tryz.prog k (#[.agg #[c0 i, c1 i, c2 i, c3 i, c4 i]] ++ caps) w1 fun e w2 => e = .returned (.bool (p i)) ∧ Below w1.heap.size w1 w2) :
    Calls Tryz.prog 120 #[.slice a n cap, .func (.func k) #[] caps] w fun e w' => e = .returned (.bool (anyN p n)) ∧ Below w.heap.size w w' := by
  have H : Hid (Calls Tryz.prog 164 #[.slice a n cap, .func (.func k) #[] caps] w fun e w' => e = .returned (.int .i64 (firstN p n)) ∧ Below w.heap.size w w') := by
    rcases hc with rfl | ⟨b, off, rfl, hc⟩
    · exact indexFuncE0 _ _ _ _
    · exact indexFuncE b off n cap k caps hk w c0 c1 c2 c3 c4 p hn hc hf
  clear hc hf hk hn
  have E : Hid (decide (0 ≤ firstN p n) = anyN p n) := decide_firstN p n
  generalize firstN p n = r at H E
  generalize anyN p n = q at E
  go_enter Tryz.func120, Tryz.ntmps120
  go_wp2_with fail
  refine H.out.mono ?_
  rintro e w1 ⟨rfl, hb⟩
  go_wp2_with fail
  go_ret
  exact ⟨ret_bool E.out, hb⟩

/-- slices.IndexFunc over a slice that is not nil. -/
theorem indexFuncT (b off n cap : Nat) (k : FuncId) (caps : Array Value) (hk : ∀ args w, (callFunc k args).run Tryz.prog w = .ok (.enter k args) w) (w : World) (c0 c1 c2 c3 c4 : Nat → Value) (p : Nat → Bool) (hn : n ≤ 140737488355328)
    (hc : ∀ i, i < n → w.cell? ⟨b, off + i * 5, none⟩ = some (c0 i) ∧ w.cell? ⟨b, off + i * 5 + 1, none⟩ = some (c1 i) ∧ w.cell? ⟨b, off + i * 5 + 2, none⟩ = some (c2 i) ∧ w.cell? ⟨b, off + i * 5 + 3, none⟩ = some (c3 i) ∧ w.cell? ⟨b, off + i * 5 + 4, none⟩ = some (c4 i))
    (hf : ∀ i, i < n → ∀ w1, Below w.heap.size w w1 → Calls Tryz.prog k (#[.agg #[c0 i, c1 i, c2 i, c3 i, c4 i]] ++ caps) w1 fun e w2 => e = .returned (.bool (p i)) ∧ Below w1.heap.size w1 w2) :
    Calls Tryz.prog 159 #[.slice (some ⟨b, off, none⟩) n cap, .func (.func k) #[] caps] w fun e w' => e = .returned (.int .i64 (firstN p n)) ∧ Below w.heap.size w w' := by
  have HF := Lib.hid hf; clear hf
  have HC := Lib.hid hc; clear hc
  have hn1 : n < 9223372036854775807 := by omega
  clear hn
  go_enter Tryz.func159, Tryz.ntmps159
  go_wp2_with fail
  go_loopw [5, 8] (fun _ i8 wr => ∃ j : Nat, j ≤ n ∧ i8 = .int .i64 j ∧ (∀ i, i < j → p i = false) ∧ Below w.heap.size w wr) (fun _ i8 _ => n - (intOf i8).toNat)
  case atStart => exact ⟨0, Nat.zero_le _, rfl, fun i hi => by omega, Below.refl _ _⟩
  case round =>
    obtain ⟨j, hj, rfl, hno, hb⟩ := hrel
    have HNO := Lib.hid hno; clear hno
    by_cases hlt : j < n
    · obtain ⟨g0, g1, g2, g3, g4⟩ := HC.out j hlt
      have k0 := below_keeps hb g0
      have k1 := below_keeps hb g1
      have k2 := below_keeps hb g2
      have k3 := below_keeps hb g3
      have k4 := below_keeps hb g4
      clear g0 g1 g2 g3 g4
      have call := HF.out j hlt wr hb
      have HB := Lib.hid hb; clear hb
      have HCALL := Lib.hid call; clear call
      go_wp2_with fail
      refine HCALL.out.mono ?_
      cases hp : p j
      · rintro e w2 ⟨rfl, hb2⟩
        have HP := Lib.hid hp; clear hp
        go_wp2_with fail
        go_roundw
        case rel => exact ⟨j + 1, by omega, by go_num, fun i hi => by rcases Nat.lt_succ_iff_lt_or_eq.1 hi with h | rfl; exact HNO.out i h; exact HP.out, HB.out.trans (hb2.mono HB.out.size)⟩
        case measure => simp [intOf]; omega
      · rintro e w2 ⟨rfl, hb2⟩
        have HP := Lib.hid hp; clear hp
        go_wp2_with fail
        go_ret
        exact ⟨ret_int (firstN_at p j HP.out HNO.out n hlt).symm, HB.out.trans (hb2.mono HB.out.size)⟩
    · have hje : n ≤ j := by omega
      have HB := Lib.hid hb; clear hb
      go_wp2_with fail
      go_ret
      exact ⟨ret_int (firstN_none p n (fun i hi => HNO.out i (by omega))).symm, HB.out⟩

/-- The same over an empty one. -/
theorem indexFuncT0 (a : Option Addr) (cap : Nat) (f : Value) (w : World) :
    Calls Tryz.prog 159 #[.slice a 0 cap, f] w fun e w' => e = .returned (.int .i64 (-1)) ∧ Below w.heap.size w w' := by
  go_enter Tryz.func159, Tryz.ntmps159
  go_wp2_with fail
  refine wp_loop_rounds 1 ?_
  rw [rounds_succ]
  go_wp2_with fail
  go_ret
  exact ⟨rfl, Below.refl _ _⟩

/-- slices.ContainsFunc: whether the function says yes to some element. -/
theorem containsFuncT (a : Option Addr) (n cap : Nat) (k : FuncId) (caps : Array Value) (hk : ∀ args w, (callFunc k args).run Tryz.prog w = .ok (.enter k args) w) (w : World) (c0 c1 c2 c3 c4 : Nat → Value) (p : Nat → Bool) (hn : n ≤ 140737488355328)
    (hc : n = 0 ∨ ∃ b off, a = some ⟨b, off, none⟩ ∧ ∀ i, i < n → w.cell? ⟨b, off + i * 5, none⟩ = some (c0 i) ∧ w.cell? ⟨b, off + i * 5 + 1, none⟩ = some (c1 i) ∧ w.cell? ⟨b, off + i * 5 + 2, none⟩ = some (c2 i) ∧ w.cell? ⟨b, off + i * 5 + 3, none⟩ = some (c3 i) ∧ w.cell? ⟨b, off + i * 5 + 4, none⟩ = some (c4 i))
    (hf : ∀ i, i < n → ∀ w1, Below w.heap.size w w1 → Calls Tryz.prog k (#[.agg #[c0 i, c1 i, c2 i, c3 i, c4 i]] ++ caps) w1 fun e w2 => e = .returned (.bool (p i)) ∧ Below w1.heap.size w1 w2) :
    Calls Tryz.prog 113 #[.slice a n cap, .func (.func k) #[] caps] w fun e w' => e = .returned (.bool (anyN p n)) ∧ Below w.heap.size w w' := by
  have H : Hid (Calls Tryz.prog 159 #[.slice a n cap, .func (.func k) #[] caps] w fun e w' => e = .returned (.int .i64 (firstN p n)) ∧ Below w.heap.size w w') := by
    rcases hc with rfl | ⟨b, off, rfl, hc⟩
    · exact indexFuncT0 _ _ _ _
    · exact indexFuncT b off n cap k caps hk w c0 c1 c2 c3 c4 p hn hc hf
  clear hc hf hk hn
  have E : Hid (decide (0 ≤ firstN p n) = anyN p n) := decide_firstN p n
  generalize firstN p n = r at H E
  generalize anyN p n = q at E
  go_enter Tryz.func113, Tryz.ntmps113
  go_wp2_with fail
  refine H.out.mono ?_
  rintro e w1 ⟨rfl, hb⟩
  go_wp2_with fail
  go_ret
  exact ⟨ret_bool E.out, hb⟩

/-- slices.IndexFunc over a slice that is not nil. -/
theorem indexFuncS (b off n cap : Nat) (k : FuncId) (caps : Array Value) (hk : ∀ args w, (callFunc k args).run Tryz.prog w = .ok (.enter k args) w) (w : World) (c0 : Nat → Value) (p : Nat → Bool) (hn : n ≤ 140737488355328)
    (hc : ∀ i, i < n → w.cell? ⟨b, off + i, none⟩ = some (c0 i))
    (hf : ∀ i, i < n → ∀ w1, Below w.heap.size w w1 → Calls Tryz.prog k (#[c0 i] ++ caps) w1 fun e w2 => e = .returned (.bool (p i)) ∧ Below w1.heap.size w1 w2) :
    Calls Tryz.prog 158 #[.slice (some ⟨b, off, none⟩) n cap, .func (.func k) #[] caps] w fun e w' => e = .returned (.int .i64 (firstN p n)) ∧ Below w.heap.size w w' := by
  have HF := Lib.hid hf; clear hf
  have HC := Lib.hid hc; clear hc
  have hn1 : n < 9223372036854775807 := by omega
  clear hn
  go_enter Tryz.func158, Tryz.ntmps158
  go_wp2_with fail
  go_loopw [5, 8] (fun _ i8 wr => ∃ j : Nat, j ≤ n ∧ i8 = .int .i64 j ∧ (∀ i, i < j → p i = false) ∧ Below w.heap.size w wr) (fun _ i8 _ => n - (intOf i8).toNat)
  case atStart => exact ⟨0, Nat.zero_le _, rfl, fun i hi => by omega, Below.refl _ _⟩
  case round =>
    obtain ⟨j, hj, rfl, hno, hb⟩ := hrel
    have HNO := Lib.hid hno; clear hno
    by_cases hlt : j < n
    · have g0 := HC.out j hlt
      have k0 := below_keeps hb g0
      clear g0
      have call := HF.out j hlt wr hb
      have HB := Lib.hid hb; clear hb
      have HCALL := Lib.hid call; clear call
      go_wp2_with fail
      refine HCALL.out.mono ?_
      cases hp : p j
      · rintro e w2 ⟨rfl, hb2⟩
        have HP := Lib.hid hp; clear hp
        go_wp2_with fail
        go_roundw
        case rel => exact ⟨j + 1, by omega, by go_num, fun i hi => by rcases Nat.lt_succ_iff_lt_or_eq.1 hi with h | rfl; exact HNO.out i h; exact HP.out, HB.out.trans (hb2.mono HB.out.size)⟩
        case measure => simp [intOf]; omega
      · rintro e w2 ⟨rfl, hb2⟩
        have HP := Lib.hid hp; clear hp
        go_wp2_with fail
        go_ret
        exact ⟨ret_int (firstN_at p j HP.out HNO.out n hlt).symm, HB.out.trans (hb2.mono HB.out.size)⟩
    · have hje : n ≤ j := by omega
      have HB := Lib.hid hb; clear hb
      go_wp2_with fail
      go_ret
      exact ⟨ret_int (firstN_none p n (fun i hi => HNO.out i (by omega))).symm, HB.out⟩

/-- The same over an empty one. -/
theorem indexFuncS0 (a : Option Addr) (cap : Nat) (f : Value) (w : World) :
    Calls Tryz.prog 158 #[.slice a 0 cap, f] w fun e w' => e = .returned (.int .i64 (-1)) ∧ Below w.heap.size w w' := by
  go_enter Tryz.func158, Tryz.ntmps158
  go_wp2_with fail
  refine wp_loop_rounds 1 ?_
  rw [rounds_succ]
  go_wp2_with fail
  go_ret
  exact ⟨rfl, Below.refl _ _⟩

/-- slices.ContainsFunc: whether the function says yes to some element. -/
theorem containsFuncS (a : Option Addr) (n cap : Nat) (k : FuncId) (caps : Array Value) (hk : ∀ args w, (callFunc k args).run Tryz.prog w = .ok (.enter k args) w) (w : World) (c0 : Nat → Value) (p : Nat → Bool) (hn : n ≤ 140737488355328)
    (hc : n = 0 ∨ ∃ b off, a = some ⟨b, off, none⟩ ∧ ∀ i, i < n → w.cell? ⟨b, off + i, none⟩ = some (c0 i))
    (hf : ∀ i, i < n → ∀ w1, Below w.heap.size w w1 → Calls Tryz.prog k (#[c0 i] ++ caps) w1 fun e w2 => e = .returned (.bool (p i)) ∧ Below w1.heap.size w1 w2) :
    Calls Tryz.prog 110 #[.slice a n cap, .func (.func k) #[] caps] w fun e w' => e = .returned (.bool (anyN p n)) ∧ Below w.heap.size w w' := by
  have H : Hid (Calls Tryz.prog 158 #[.slice a n cap, .func (.func k) #[] caps] w fun e w' => e = .returned (.int .i64 (firstN p n)) ∧ Below w.heap.size w w') := by
    rcases hc with rfl | ⟨b, off, rfl, hc⟩
    · exact indexFuncS0 _ _ _ _
    · exact indexFuncS b off n cap k caps hk w c0 p hn hc hf
  clear hc hf hk hn
  have E : Hid (decide (0 ≤ firstN p n) = anyN p n) := decide_firstN p n
  generalize firstN p n = r at H E
  generalize anyN p n = q at E
  go_enter Tryz.func110, Tryz.ntmps110
  go_wp2_with fail
  refine H.out.mono ?_
  rintro e w1 ⟨rfl, hb⟩
  go_wp2_with fail
  go_ret
  exact ⟨ret_bool E.out, hb⟩
end Go.Proofs.YtcfpfnoldgnloaaGreatDoor
