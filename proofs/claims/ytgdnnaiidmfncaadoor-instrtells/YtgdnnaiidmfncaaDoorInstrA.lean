/-
  What strconv.Atoi makes of strconv.Itoa's text. Plain functions alone.
  The pieces of a text between certain bytes: what strings.FieldsFunc finds in a text of ASCII. Plain functions alone.
  Instructions as plain data: which may be, their texts, and what a text is read as. Plain functions alone.
  Parse undoes Print: a right instruction's text is read as that instruction. Plain functions alone.
-/
import Derived.Lib.ItoaNum
import Derived.Lib.ItoaLen
import Derived.Lib.AtoiAll
import Derived.Test.YtgdnnaiidmfncaaDoorTreeA
import Derived.Lib.FieldsP
import Derived.Laws.RangeAny
import Derived.Lib.IndexMore
import Derived.Lib.Strings
set_option linter.unusedVariables false
set_option linter.unusedSimpArgs false
namespace Go.Proofs.YtgdnnaiidmfncaaDoor
set_option maxRecDepth 100000

theorem pu_snoc (b : UInt8) (d : Nat) (hd : d < 10) (hb : b = UInt8.ofNat (48 + d)) : ∀ (l : List UInt8) (acc m : Nat), Lib.parseUint10 acc l = .ok m → m < 1844674407370955162 → m * 10 + d < 18446744073709551616 → Lib.parseUint10 acc (l ++ [b]) = .ok (m * 10 + d)
  | [], acc, m, h, h1, h2 => by
    simp only [Lib.parseUint10] at h
    injection h with h
    subst h
    have e : b.toNat = 48 + d := by rw [hb, UInt8.toNat_ofNat']; exact Nat.mod_eq_of_lt (by omega)
    simp only [List.nil_append, Lib.parseUint10, e]
    rw [if_pos (by omega), if_neg (by omega), if_neg (by omega)]
    congr 1; omega
  | c :: l, acc, m, h, h1, h2 => by
    simp only [Lib.parseUint10, List.cons_append] at h ⊢
    split at h
    · rename_i hc
      rw [if_pos hc]
      split at h
      · cases h
      · rename_i h3
        rw [if_neg h3]
        split at h
        · cases h
        · rename_i h4
          rw [if_neg h4]
          exact pu_snoc b d hd hb l _ m h h1 h2
    · cases h
theorem pu_digits (u : Nat) (hu : u < 18446744073709551616) : Lib.parseUint10 0 (Lib.decDigits u) = .ok u := by
  induction u using Nat.strongRecOn with
  | _ u ih =>
    rw [Lib.decDigits]
    by_cases h : u < 10
    · rw [dif_pos h]
      have := pu_snoc (UInt8.ofNat (48 + u)) u h rfl [] 0 0 rfl (by decide) (by omega)
      simpa using this
    · rw [dif_neg h]
      have := pu_snoc (UInt8.ofNat (48 + u % 10)) (u % 10) (by omega) rfl _ 0 (u / 10) (ih (u / 10) (by omega) (by omega)) (by omega) (by omega)
      rw [this]; congr 1; omega
theorem dd_ne (u : Nat) : Lib.decDigits u ≠ [] := by
  rw [Lib.decDigits]
  split
  · exact List.cons_ne_nil _ _
  · simp
theorem dd_mem (u : Nat) : ∀ c, c ∈ Lib.decDigits u → isDigit c = true := by
  induction u using Nat.strongRecOn with
  | _ u ih =>
    intro c hc
    have dig : ∀ d, d < 10 → isDigit (UInt8.ofNat (48 + d)) = true := by decide
    rw [Lib.decDigits] at hc
    by_cases h : u < 10
    · rw [dif_pos h] at hc
      rw [List.mem_singleton.1 hc]; exact dig u h
    · rw [dif_neg h] at hc
      rcases List.mem_append.1 hc with hc | hc
      · exact ih (u / 10) (by omega) c hc
      · rw [List.mem_singleton.1 hc]; exact dig _ (by omega)
theorem digit_range {c : UInt8} (h : isDigit c = true) : 48 ≤ c.toNat ∧ c.toNat ≤ 57 := by
  simp [isDigit, UInt8.le_iff_toNat_le] at h; omega
theorem mag_digits (u : Nat) (hu : u < 18446744073709551616) : Lib.parseMag (Lib.decDigits u) = .ok u := by
  unfold Lib.parseMag
  rw [if_neg (dd_ne u)]; exact pu_digits u hu
theorem atoi_itoa (n : Int) (h0 : -9223372036854775808 ≤ n) (h1 : n ≤ 9223372036854775807) : Lib.atoiAll (Lib.itoa n) = .ok n := by
  unfold Lib.itoa
  by_cases hn : n < 0
  · rw [if_pos hn]
    have e45 : (45 : UInt8).toNat = 45 := rfl
    simp only [Lib.atoiAll, e45]
    rw [if_pos (by decide), mag_digits n.natAbs (by omega)]
    simp only
    rw [if_neg (fun h => h.1 trivial), if_neg (fun h => by have := h.2; omega), if_pos trivial]
    congr 1; omega
  · rw [if_neg hn]
    have hm := dd_mem n.toNat
    have hg := mag_digits n.toNat (by omega)
    cases hl : Lib.decDigits n.toNat with
    | nil => exact absurd hl (dd_ne _)
    | cons c r =>
      have hc := digit_range (hm c (by rw [hl]; exact List.mem_cons_self))
      rw [hl] at hg
      simp only [Lib.atoiAll]
      rw [if_neg (by omega), hg]
      simp only
      rw [if_neg (by omega), if_neg (by omega), if_neg (by omega)]
      congr 1; omega
end Go.Proofs.YtgdnnaiidmfncaaDoor

namespace Go.Proofs.YtgdnnaiidmfncaaDoor
open Go.RowKit
set_option maxRecDepth 100000

def fieldsB (p : UInt8 → Bool) : Bs → Bs → List Bs
  | cur, [] => if cur = [] then [] else [cur]
  | cur, c :: l => if p c = true then (if cur = [] then fieldsB p [] l else cur :: fieldsB p [] l) else fieldsB p (cur ++ [c]) l
theorem fieldsB_none (p : UInt8 → Bool) : ∀ (a cur l : Bs), (∀ c, c ∈ a → p c = false) → fieldsB p cur (a ++ l) = fieldsB p (cur ++ a) l
  | [], cur, l, _ => by simp
  | c :: a, cur, l, h => by
    have hc := h c List.mem_cons_self
    have e : fieldsB p cur (c :: (a ++ l)) = fieldsB p (cur ++ [c]) (a ++ l) := by
      show (if p c = true then _ else _) = _
      rw [if_neg (by simp [hc])]
    rw [List.cons_append, e, fieldsB_none p a _ l (fun x hx => h x (List.mem_cons_of_mem _ hx))]
    simp
theorem fieldsB_piece (p : UInt8 → Bool) (a : Bs) (s : UInt8) (l : Bs) (ha : a ≠ []) (h : ∀ c, c ∈ a → p c = false) (hs : p s = true) : fieldsB p [] (a ++ s :: l) = a :: fieldsB p [] l := by
  rw [fieldsB_none p a [] _ h, List.nil_append]
  show (if p s = true then _ else _) = _
  rw [if_pos hs, if_neg ha]
theorem fieldsB_sep (p : UInt8 → Bool) (s : UInt8) (l : Bs) (hs : p s = true) : fieldsB p [] (s :: l) = fieldsB p [] l := by
  show (if p s = true then _ else _) = _
  rw [if_pos hs, if_pos rfl]
theorem fieldsB_last (p : UInt8 → Bool) (a : Bs) (ha : a ≠ []) (h : ∀ c, c ∈ a → p c = false) : fieldsB p [] a = [a] := by
  have := fieldsB_none p a [] [] h
  rw [List.append_nil, List.nil_append] at this
  rw [this]
  show (if a = [] then _ else _) = _
  rw [if_neg ha]
/-- What has been begun. -/
def curB (l : Bs) (st : Option Nat) (pos : Nat) : Bs := match st with | none => [] | some a => (l.take pos).drop a
theorem spans_ascii (p : Nat → Bool) (l : Bs) (h7 : ∀ c, c ∈ l → c.toNat < 128) : ∀ (f pos : Nat) (st : Option Nat) (acc : List (Nat × Nat)), l.length ≤ pos + f → pos ≤ l.length → (∀ a, st = some a → a < pos) →
    ((Lib.closeSpans (strOf l) (Lib.spansFromP p (strOf l) f pos st acc)).map fun x => ((strOf l).extract x.1 x.2).data.toList) =
      (acc.map fun x => ((strOf l).extract x.1 x.2).data.toList) ++ fieldsB (fun c => p c.toNat) (curB l st pos) (l.drop pos) := by
  have ext : ∀ a b, a ≤ b → b ≤ l.length → ((strOf l).extract a b).data.toList = (l.take b).drop a := fun a b h1 h2 => by
    rw [ByteArray.data_extract]
    simp [strOf, List.drop_take]
  have hsz : (strOf l).size = l.length := by show l.toArray.size = _; simp
  have fin : ∀ pos st acc, ¬ pos < l.length → pos ≤ l.length → (∀ a, st = some a → a < pos) →
      ((Lib.closeSpans (strOf l) (acc, st)).map fun x => ((strOf l).extract x.1 x.2).data.toList) =
        (acc.map fun x => ((strOf l).extract x.1 x.2).data.toList) ++ fieldsB (fun c => p c.toNat) (curB l st pos) (l.drop pos) := by
    intro pos st acc h1 h2 hst
    have e : pos = l.length := by omega
    subst e
    rw [List.drop_length]
    cases st with
    | none => simp [Lib.closeSpans, curB, fieldsB]
    | some a =>
      have ha := hst a rfl
      have hne : (l.take l.length).drop a ≠ [] := by
        intro e
        have := congrArg List.length e
        simp at this; omega
      have e1 : fieldsB (fun c => p c.toNat) (curB l (some a) l.length) [] = [(l.take l.length).drop a] := by
        show (if (l.take l.length).drop a = [] then _ else _) = _
        rw [if_neg hne]; rfl
      rw [e1]
      show (acc ++ [(a, (strOf l).size)]).map _ = _
      rw [List.map_append, List.map_singleton, hsz, ext a l.length (by omega) (Nat.le_refl _)]
  intro f
  induction f with
  | zero =>
    intro pos st acc h1 h2 hst
    exact fin pos st acc (by omega) h2 hst
  | succ f ih =>
    intro pos st acc h1 h2 hst
    by_cases hlt : pos < l.length
    · have hd : Utf8.decode (strOf l) pos = (l[pos].toNat, 1) := decode_ascii (strOf l) pos hlt (h7 _ (List.getElem_mem hlt))
      have hdrop : l.drop pos = l[pos] :: l.drop (pos + 1) := List.drop_eq_getElem_cons hlt
      rw [hdrop]
      unfold Lib.spansFromP
      rw [if_pos (by rw [hsz]; exact hlt), hd]
      dsimp only
      by_cases hp : p l[pos].toNat = true
      · rw [if_pos hp]
        cases st with
        | none =>
          dsimp only
          rw [ih (pos + 1) none acc (by omega) hlt (fun a h => by cases h)]
          simp only [curB]
          congr 1
          show _ = (if p l[pos].toNat = true then _ else _)
          rw [if_pos hp, if_pos rfl]
        | some a =>
          have ha := hst a rfl
          have hne : (l.take pos).drop a ≠ [] := by
            intro e
            have := congrArg List.length e
            simp at this; omega
          dsimp only
          rw [ih (pos + 1) none (acc ++ [(a, pos)]) (by omega) hlt (fun a h => by cases h)]
          simp only [curB]
          rw [List.map_append, List.map_singleton, ext a pos (by omega) (by omega), List.append_assoc]
          congr 1
          show _ = (if p l[pos].toNat = true then _ else _)
          rw [if_pos hp, if_neg hne]; rfl
      · rw [if_neg hp]
        have hgrow : ∀ a, a ≤ pos → (l.take (pos + 1)).drop a = (l.take pos).drop a ++ [l[pos]] := fun a ha => by
          rw [List.take_succ_eq_append_getElem hlt, List.drop_append_of_le_length (by rw [List.length_take]; omega)]
        cases st with
        | none =>
          dsimp only
          rw [ih (pos + 1) (some pos) acc (by omega) hlt (fun a h => by cases h; omega)]
          congr 1
          show _ = (if p l[pos].toNat = true then _ else _)
          rw [if_neg hp]
          simp only [curB]
          rw [hgrow pos (Nat.le_refl _), List.drop_take]
          simp
        | some a =>
          have ha := hst a rfl
          dsimp only
          rw [ih (pos + 1) (some a) acc (by omega) hlt (fun b h => by cases h; omega)]
          congr 1
          show _ = (if p l[pos].toNat = true then _ else _)
          rw [if_neg hp]
          simp only [curB]
          rw [hgrow a (by omega)]
    · rw [Lib.spansFromP_end p (strOf l) (f + 1) pos st acc (by rw [hsz]; exact hlt)]
      exact fin pos st acc hlt h2 hst
theorem goFields_ascii (p : Nat → Bool) (l : Bs) (h7 : ∀ c, c ∈ l → c.toNat < 128) : (Lib.goFieldsP p (strOf l)).map (·.data.toList) = fieldsB (fun c => p c.toNat) [] l := by
  have hsz : (strOf l).size = l.length := by show l.toArray.size = _; simp
  have h := spans_ascii p l h7 (strOf l).size 0 none [] (by omega) (Nat.zero_le _) (fun a h => by cases h)
  unfold Lib.goFieldsP Lib.spansOfP
  rw [List.map_map]
  exact h
end Go.Proofs.YtgdnnaiidmfncaaDoor

namespace Go.Proofs.YtgdnnaiidmfncaaDoor
set_option maxRecDepth 100000
set_option maxHeartbeats 4000000

structure Ins where
  op : Int
  d : Int
  a : Int
  b : Int
  n : Int
  name : Bs
def insEq (x y : Ins) : Bool := x.op == y.op && (x.d == y.d && (x.a == y.a && (x.b == y.b && (x.n == y.n && x.name == y.name))))
theorem insEq_iff (x y : Ins) : insEq x y = true ↔ x = y := by
  obtain ⟨o, d, a, b, n, s⟩ := x
  obtain ⟨o', d', a', b', n', s'⟩ := y
  simp [insEq]
/-- Words and forms. -/
def rowsI : List (Bs × Bs) := [([], []), ([97, 100, 100], [68, 44, 32, 65, 44, 32, 66]), ([115, 117, 98], [68, 44, 32, 65, 44, 32, 66]), ([109, 117, 108], [68, 44, 32, 65, 44, 32, 66]), ([100, 105, 118], [68, 44, 32, 65, 44, 32, 66]), ([114, 101, 109], [68, 44, 32, 65, 44, 32, 66]), ([97, 110, 100], [68, 44, 32, 65, 44, 32, 66]), ([111, 114], [68, 44, 32, 65, 44, 32, 66]), ([120, 111, 114], [68, 44, 32, 65, 44, 32, 66]), ([115, 108, 108], [68, 44, 32, 65, 44, 32, 66]), ([115, 114, 97], [68, 44, 32, 65, 44, 32, 66]), ([115, 108, 116], [68, 44, 32, 65, 44, 32, 66]), ([115, 108, 116, 117], [68, 44, 32, 65, 44, 32, 66]), ([115, 101, 113, 122], [68, 44, 32, 65]), ([115, 110, 101, 122], [68, 44, 32, 65]), ([109, 118], [68, 44, 32, 65]), ([108, 105], [68, 44, 32, 78]), ([108, 97], [68, 44, 32, 76]), ([97, 100, 100, 105], [68, 44, 32, 65, 44, 32, 83]), ([108, 100], [68, 44, 32, 83, 40, 65, 41]), ([115, 100], [66, 44, 32, 83, 40, 65, 41]), ([98, 101, 113], [65, 44, 32, 66, 44, 32, 76]), ([98, 110, 101], [65, 44, 32, 66, 44, 32, 76]), ([98, 108, 116], [65, 44, 32, 66, 44, 32, 76]), ([98, 103, 101], [65, 44, 32, 66, 44, 32, 76]), ([106], [76]), ([106, 97, 108], [76]), ([114, 101, 116], []), ([101, 99, 97, 108, 108], [])]
def rowI (op : Int) : Bs × Bs := if op < 0 ∨ 29 ≤ op then ([], []) else rowsI.getD op.toNat ([], [])
def labC (c : UInt8) : Bool := isLetter c || c == 46
def labelAt : Bool → Bs → Bool
  | _, [] => true
  | first, c :: s => ((isDigit c && !first) || labC c) && labelAt false s
def labelB (s : Bs) : Bool := labelAt true s && (!s.isEmpty && decide (s.length ≤ 40))
/-- A register, or a number, of an instruction. -/
def partI (x : Ins) (c : UInt8) : Option Int := if c = 68 then some x.d else if c = 65 then some x.a else if c = 66 then some x.b else if c = 78 ∨ c = 83 then some x.n else none
def setI (o : Ins) (c : UInt8) (v : Int) : Ins := if c = 68 then { o with d := v } else if c = 65 then { o with a := v } else if c = 66 then { o with b := v } else if c = 78 ∨ c = 83 then { o with n := v } else o
def mayI (n : Int) (c : UInt8) : Bool := if c = 78 then true else if c = 83 then decide (-2047 ≤ n ∧ n ≤ 2047) else decide (0 ≤ n ∧ n < 32)
def stepR (x o : Ins) (c : UInt8) : Option Ins :=
  if c = 76 then some { o with name := x.name } else
  match partI x c with
  | none => some o
  | some v => if mayI v c = true then some (setI o c v) else none
def foldR (x : Ins) : Bs → Ins → Option Ins
  | [], o => some o
  | c :: f, o => match stepR x o c with | none => none | some o' => foldR x f o'
def zeroI (op : Int) : Ins := ⟨op, 0, 0, 0, 0, []⟩
/-- May it be? -/
def rightI (x : Ins) : Bool :=
  match foldR x (rowI x.op).2 (zeroI x.op) with
  | none => false
  | some o => !(rowI x.op).1.isEmpty && (insEq o x && ((rowI x.op).2.contains 76 == labelB x.name))
def pieceI (x : Ins) (c : UInt8) : Bs :=
  if c = 76 then x.name else
  match partI x c with
  | none => [c]
  | some v => if c = 78 ∨ c = 83 then Lib.itoa v else 120 :: Lib.itoa v
/-- Its text. -/
def textI (x : Ins) : Bs := (rowI x.op).1 ++ ((if (rowI x.op).2 = [] then [] else [32]) ++ (rowI x.op).2.flatMap (pieceI x))
def sepI (c : Nat) : Bool := c == 32 || c == 44 || c == 40 || c == 41
def atoiV (t : Bs) : Int := match Lib.atoiAll t with | .ok v => v | .range => Lib.atoiSat t | _ => 0
/-- What a piece of a text is read as. -/
def stepP (o : Ins) (f t : Bs) : Ins :=
  match f with
  | [] => o
  | c :: _ => if (partI o c).isNone = true then { o with name := t } else setI o c (atoiV (Lib.trimPrefix t [120]))
def foldP : List Bs → List Bs → Ins → Ins
  | f :: fs, t :: ts, o => foldP fs ts (stepP o f t)
  | _, _, o => o
def wordsI (s : Bs) : List Bs := (Lib.goFieldsP sepI (strOf s)).map (·.data.toList)
def readI (op : Int) (rest : Bs) : Ins := foldP (wordsI (rowI op).2) (wordsI rest) (zeroI op)
/-- From op on: the first instruction whose text it is. -/
def findI (word rest s : Bs) : Nat → Int → Option Ins
  | 0, _ => none
  | k + 1, op => if (rowI op).1 = word ∧ rightI (readI op rest) = true ∧ textI (readI op rest) = s then some (readI op rest) else findI word rest s k (op + 1)
def parseI (s : Bs) : Option Ins := findI (Lib.cut s [32]).1 (Lib.cut s [32]).2.1 s 28 1
theorem findI_sound (word rest s : Bs) : ∀ (k : Nat) (op : Int) (x : Ins), findI word rest s k op = some x → rightI x = true ∧ textI x = s
  | 0, op, x, h => by cases h
  | k + 1, op, x, h => by
    unfold findI at h
    split at h
    · rename_i hc
      cases h
      exact ⟨hc.2.1, hc.2.2⟩
    · exact findI_sound word rest s k (op + 1) x h
theorem parseI_sound (s : Bs) (x : Ins) (h : parseI s = some x) : rightI x = true ∧ textI x = s := findI_sound _ _ _ _ _ _ h

/-! ### What may be, form by form -/
theorem foldR_spec (x : Ins) : ∀ (f : Bs) (o o' : Ins), foldR x f o = some o' ↔ ((∀ c, c ∈ f → c ≠ 76 → ∀ v, partI x c = some v → mayI v c = true) ∧
    o' = ⟨o.op, if 68 ∈ f then x.d else o.d, if 65 ∈ f then x.a else o.a, if 66 ∈ f then x.b else o.b, if 78 ∈ f ∨ 83 ∈ f then x.n else o.n, if 76 ∈ f then x.name else o.name⟩)
  | [], o, o' => by
    constructor
    · intro h
      have h : some o = some o' := h
      cases h
      exact ⟨fun c hc => (by cases hc), rfl⟩
    · rintro ⟨_, h⟩
      show some o = some o'
      rw [h]; rfl
  | c :: f, o, o' => by
    have hd : ∀ y : Ins, y = ⟨y.op, y.d, y.a, y.b, y.n, y.name⟩ := fun y => rfl
    unfold foldR stepR
    by_cases h76 : c = 76
    · subst h76
      rw [if_pos rfl]
      dsimp only
      rw [foldR_spec x f]
      simp
    · rw [if_neg h76]
      have h76' : ¬ (76 = c) := fun e => h76 e.symm
      by_cases h68 : c = 68
      · subst h68
        have e : partI x 68 = some x.d := rfl
        rw [e]
        dsimp only
        by_cases hm : mayI x.d 68 = true
        · rw [if_pos hm]
          dsimp only
          rw [foldR_spec x f]
          have es : setI o 68 x.d = { o with d := x.d } := rfl
          rw [es]
          simp [e, hm]
        · rw [if_neg hm]
          simp [e, hm]
      · by_cases h65 : c = 65
        · subst h65
          have e : partI x 65 = some x.a := rfl
          rw [e]
          dsimp only
          by_cases hm : mayI x.a 65 = true
          · rw [if_pos hm]
            dsimp only
            rw [foldR_spec x f]
            have es : setI o 65 x.a = { o with a := x.a } := rfl
            rw [es]
            simp [e, hm]
          · rw [if_neg hm]
            simp [e, hm]
        · by_cases h66 : c = 66
          · subst h66
            have e : partI x 66 = some x.b := rfl
            rw [e]
            dsimp only
            by_cases hm : mayI x.b 66 = true
            · rw [if_pos hm]
              dsimp only
              rw [foldR_spec x f]
              have es : setI o 66 x.b = { o with b := x.b } := rfl
              rw [es]
              simp [e, hm]
            · rw [if_neg hm]
              simp [e, hm]
          · by_cases h78 : c = 78
            · subst h78
              have e : partI x 78 = some x.n := rfl
              have hm : mayI x.n 78 = true := rfl
              rw [e]
              dsimp only
              rw [if_pos hm]
              dsimp only
              rw [foldR_spec x f]
              have es : setI o 78 x.n = { o with n := x.n } := rfl
              rw [es]
              simp [e, hm]
            · by_cases h83 : c = 83
              · subst h83
                have e : partI x 83 = some x.n := rfl
                rw [e]
                dsimp only
                by_cases hm : mayI x.n 83 = true
                · rw [if_pos hm]
                  dsimp only
                  rw [foldR_spec x f]
                  have es : setI o 83 x.n = { o with n := x.n } := rfl
                  rw [es]
                  simp [e, hm]
                · rw [if_neg hm]
                  simp [e, hm]
              · have e : partI x c = none := by simp [partI, h68, h65, h66, h78, h83]
                rw [e]
                dsimp only
                rw [foldR_spec x f]
                have g1 : ¬ (68 = c) := fun h => h68 h.symm
                have g2 : ¬ (65 = c) := fun h => h65 h.symm
                have g3 : ¬ (66 = c) := fun h => h66 h.symm
                have g4 : ¬ (78 = c) := fun h => h78 h.symm
                have g5 : ¬ (83 = c) := fun h => h83 h.symm
                simp [e, h76', g1, g2, g3, g4, g5]
end Go.Proofs.YtgdnnaiidmfncaaDoor

namespace Go.Proofs.YtgdnnaiidmfncaaDoor
set_option maxRecDepth 100000
set_option maxHeartbeats 4000000

def sepB (c : UInt8) : Bool := c == 32 || c == 44 || c == 40 || c == 41
theorem sepI_of (c : UInt8) : sepI c.toNat = sepB c := by
  rw [Bool.eq_iff_iff]; simp [sepI, sepB, ← UInt8.toNat_inj]
theorem wordsI_ascii (l : Bs) (h7 : ∀ c, c ∈ l → c.toNat < 128) : wordsI l = fieldsB sepB [] l := by
  unfold wordsI
  rw [goFields_ascii _ _ h7]
  congr 1
  funext c
  exact sepI_of c
def altF : Bs → Bool
  | [] => true
  | [_] => true
  | c :: d :: r => (sepB c || sepB d) && altF (d :: r)
def keyB (c : UInt8) : Bool := c == 68 || c == 65 || c == 66 || c == 78 || c == 83 || c == 76
def keysB (f : Bs) : Bs := f.filter (fun c => !sepB c)
theorem forms_ok : ∀ r, r ∈ rowsI → altF r.2 = true ∧ (∀ c, c ∈ r.2 → (sepB c = true ∨ keyB c = true) ∧ c.toNat < 128) ∧ (32 : UInt8) ∉ r.1 := by decide
theorem row_mem (op : Int) : rowI op = ([], []) ∨ (rowI op ∈ rowsI ∧ 0 ≤ op ∧ op < 29 ∧ rowsI[op.toNat]? = some (rowI op)) := by
  unfold rowI
  by_cases h : op < 0 ∨ 29 ≤ op
  · left; rw [if_pos h]
  · right
    rw [if_neg h]
    have hl : op.toNat < rowsI.length := by show op.toNat < 29; omega
    rw [List.getD_eq_getElem?_getD, List.getElem?_eq_getElem hl]
    exact ⟨List.getElem_mem hl, by omega, by omega, rfl⟩
theorem row_ok (op : Int) : altF (rowI op).2 = true ∧ (∀ c, c ∈ (rowI op).2 → (sepB c = true ∨ keyB c = true) ∧ c.toNat < 128) ∧ (32 : UInt8) ∉ (rowI op).1 := by
  rcases row_mem op with h | h
  · rw [h]; exact ⟨rfl, fun c hc => (by cases hc), by decide⟩
  · exact forms_ok _ h.1
theorem words_nodup : (rowsI.map (·.1)).Nodup := by decide
theorem word_inj (i j : Int) (h0 : 0 ≤ i) (hj : 0 ≤ j) (h1 : i < 29) (h2 : j < 29) (h : (rowI i).1 = (rowI j).1) : i = j := by
  have e : ∀ k : Int, 0 ≤ k → k < 29 → ∃ hk : k.toNat < (rowsI.map (·.1)).length, (rowsI.map (·.1))[k.toNat] = (rowI k).1 := fun k h0 h1 => by
    have hl : k.toNat < rowsI.length := by show k.toNat < 29; omega
    refine ⟨by rw [List.length_map]; exact hl, ?_⟩
    unfold rowI
    rw [if_neg (by omega), List.getElem_map, List.getD_eq_getElem?_getD, List.getElem?_eq_getElem hl]
    rfl
  obtain ⟨a1, a2⟩ := e i h0 h1
  obtain ⟨b1, b2⟩ := e j hj h2
  have := (List.getElem_inj (h₀ := a1) (h₁ := b1) words_nodup).1 (by rw [a2, b2, h])
  omega
theorem fields_alt (p : UInt8 → Bs) (hs : ∀ c, sepB c = true → p c = [c]) : ∀ f : Bs, (∀ c, c ∈ f → sepB c = false → p c ≠ [] ∧ ∀ d, d ∈ p c → sepB d = false) → altF f = true → fieldsB sepB [] (f.flatMap p) = (keysB f).map p
  | [], _, _ => rfl
  | [c], hp, _ => by
    by_cases h : sepB c = true
    · rw [List.flatMap_cons, hs c h]
      rw [List.singleton_append, fieldsB_sep sepB c _ h]
      simp [keysB, h, fieldsB]
    · have h' : sepB c = false := by simpa using h
      obtain ⟨h1, h2⟩ := hp c List.mem_cons_self h'
      have e : [c].flatMap p = p c := by simp
      rw [e, fieldsB_last sepB _ h1 h2]
      simp [keysB, h']
  | c :: d :: r, hp, ha => by
    simp only [altF, Bool.and_eq_true] at ha
    have ih := fields_alt p hs (d :: r) (fun x hx => hp x (List.mem_cons_of_mem _ hx)) ha.2
    by_cases h : sepB c = true
    · rw [List.flatMap_cons, hs c h]
      rw [List.singleton_append, fieldsB_sep sepB c _ h, ih]
      simp [keysB, h]
    · have h' : sepB c = false := by simpa using h
      obtain ⟨h1, h2⟩ := hp c List.mem_cons_self h'
      have hd : sepB d = true := by simpa [h'] using ha.1
      have e2 : (d :: r).flatMap p = d :: r.flatMap p := by rw [List.flatMap_cons, hs d hd]; rfl
      rw [e2, fieldsB_sep sepB d _ hd] at ih
      rw [List.flatMap_cons, e2, fieldsB_piece sepB (p c) d _ h1 h2 hd, ih]
      simp [keysB, h']
/-! ### Pieces -/
theorem itoa_mem (v : Int) : ∀ c, c ∈ Lib.itoa v → isDigit c = true ∨ c = 45 := by
  intro c hc
  unfold Lib.itoa at hc
  split at hc
  · rcases List.mem_cons.1 hc with h | h
    · exact .inr h
    · exact .inl (dd_mem _ c h)
  · exact .inl (dd_mem _ c hc)
theorem itoa_ne (v : Int) : Lib.itoa v ≠ [] := by
  unfold Lib.itoa
  split
  · exact List.cons_ne_nil _ _
  · exact dd_ne _
theorem dig_sep {c : UInt8} (h : isDigit c = true ∨ c = 45) : sepB c = false ∧ c.toNat < 128 ∧ c ≠ 120 := by
  rcases h with h | h
  · have := digit_range h
    refine ⟨?_, by omega, fun e => by subst e; simp at this⟩
    rw [← Bool.not_eq_true]; simp [sepB, ← UInt8.toNat_inj]; omega
  · subst h; exact ⟨rfl, by decide, by decide⟩
theorem lab_mem : ∀ (b : Bool) (l : Bs), labelAt b l = true → ∀ c, c ∈ l → sepB c = false ∧ c.toNat < 128
  | _, [], _, c, hc => by cases hc
  | b, a :: l, h, c, hc => by
    simp only [labelAt, Bool.and_eq_true] at h
    rcases List.mem_cons.1 hc with rfl | hc
    · have h1 := h.1
      simp only [Bool.or_eq_true, Bool.and_eq_true] at h1
      rcases h1 with h1 | h1
      · exact ⟨(dig_sep (.inl h1.1)).1, (dig_sep (.inl h1.1)).2.1⟩
      · simp [labC, isLetter, UInt8.le_iff_toNat_le, ← UInt8.toNat_inj] at h1
        refine ⟨?_, by omega⟩
        rw [← Bool.not_eq_true]; simp [sepB, ← UInt8.toNat_inj]; omega
    · exact lab_mem false l h.2 c hc
theorem label_mem {l : Bs} (h : labelB l = true) : l ≠ [] ∧ (∀ c, c ∈ l → sepB c = false ∧ c.toNat < 128) ∧ l.length ≤ 40 := by
  simp only [labelB, Bool.and_eq_true, decide_eq_true_eq] at h
  exact ⟨by simpa using h.2.1, lab_mem true l h.1, h.2.2⟩
def FitsI (x : Ins) : Prop := -9223372036854775808 ≤ x.n ∧ x.n ≤ 9223372036854775807
/-- What is right, laid open. -/
theorem right_open {x : Ins} (h : rightI x = true) : foldR x (rowI x.op).2 (zeroI x.op) = some x ∧ (rowI x.op).1 ≠ [] ∧ ((76 : UInt8) ∈ (rowI x.op).2 ↔ labelB x.name = true) := by
  unfold rightI at h
  cases hf : foldR x (rowI x.op).2 (zeroI x.op) with
  | none => rw [hf] at h; cases h
  | some o =>
    rw [hf] at h
    simp only [Bool.and_eq_true, beq_iff_eq, insEq_iff] at h
    obtain ⟨h1, h2, h3⟩ := h
    refine ⟨by rw [h2], by simpa using h1, ?_⟩
    rw [← h3]; simp
theorem keys_cases {c : UInt8} (h : keyB c = true) : c = 68 ∨ c = 65 ∨ c = 66 ∨ c = 78 ∨ c = 83 ∨ c = 76 := by
  simp only [keyB, Bool.or_eq_true, beq_iff_eq] at h
  rcases h with ((((h | h) | h) | h) | h) | h <;> simp [h]
theorem piece_ok {x : Ins} (h : rightI x = true) : ∀ c, c ∈ (rowI x.op).2 → sepB c = false → pieceI x c ≠ [] ∧ ∀ d, d ∈ pieceI x c → sepB d = false ∧ d.toNat < 128 := by
  intro c hc hs
  have num : ∀ v, Lib.itoa v ≠ [] ∧ ∀ d, d ∈ Lib.itoa v → sepB d = false ∧ d.toNat < 128 := fun v => ⟨itoa_ne v, fun d hd => ⟨(dig_sep (itoa_mem v d hd)).1, (dig_sep (itoa_mem v d hd)).2.1⟩⟩
  have reg : ∀ v, (120 : UInt8) :: Lib.itoa v ≠ [] ∧ ∀ d, d ∈ (120 : UInt8) :: Lib.itoa v → sepB d = false ∧ d.toNat < 128 := fun v => ⟨List.cons_ne_nil _ _, fun d hd => by
    rcases List.mem_cons.1 hd with rfl | hd
    · decide
    · exact (num v).2 d hd⟩
  have hk : keyB c = true := by
    rcases ((row_ok x.op).2.1 c hc).1 with h' | h'
    · rw [hs] at h'; cases h'
    · exact h'
  rcases keys_cases hk with rfl | rfl | rfl | rfl | rfl | rfl
  · exact reg x.d
  · exact reg x.a
  · exact reg x.b
  · exact num x.n
  · exact num x.n
  · have := label_mem ((right_open h).2.2.1 hc)
    exact ⟨this.1, this.2.1⟩
theorem piece_sep (x : Ins) (c : UInt8) (h : sepB c = true) : pieceI x c = [c] := by
  have e : c = 32 ∨ c = 44 ∨ c = 40 ∨ c = 41 := by
    simp only [sepB, Bool.or_eq_true, beq_iff_eq] at h
    rcases h with ((h | h) | h) | h <;> simp [h]
  rcases e with rfl | rfl | rfl | rfl <;> rfl
theorem step_sep (x o : Ins) (c : UInt8) (h : sepB c = true) : stepR x o c = some o := by
  have e : c = 32 ∨ c = 44 ∨ c = 40 ∨ c = 41 := by
    simp only [sepB, Bool.or_eq_true, beq_iff_eq] at h
    rcases h with ((h | h) | h) | h <;> simp [h]
  rcases e with rfl | rfl | rfl | rfl <;> rfl
theorem foldR_keys (x : Ins) : ∀ (f : Bs) (o : Ins), foldR x f o = foldR x (keysB f) o
  | [], o => rfl
  | c :: f, o => by
    by_cases h : sepB c = true
    · have e : foldR x (c :: f) o = foldR x f o := by
        show (match stepR x o c with | none => none | some o' => foldR x f o') = _
        rw [step_sep x o c h]
      rw [e, foldR_keys x f o]
      simp [keysB, h]
    · have h' : sepB c = false := by simpa using h
      have e : keysB (c :: f) = c :: keysB f := by simp [keysB, h']
      rw [e]
      unfold foldR
      cases stepR x o c with
      | none => rfl
      | some o' => exact foldR_keys x f o'
theorem trim_x (t : Bs) : Lib.trimPrefix (120 :: t) [120] = t := by simp [Lib.trimPrefix, Lib.hasPrefix]
theorem trim_num (v : Int) : Lib.trimPrefix (Lib.itoa v) [120] = Lib.itoa v := by
  unfold Lib.trimPrefix
  rw [if_neg]
  intro h
  cases hl : Lib.itoa v with
  | nil => exact itoa_ne v hl
  | cons c r =>
    rw [hl] at h
    have hc := (dig_sep (itoa_mem v c (by rw [hl]; exact List.mem_cons_self))).2.2
    simp [Lib.hasPrefix, List.isPrefixOf] at h
    exact hc h.symm
theorem atoiV_itoa (v : Int) (h0 : -9223372036854775808 ≤ v) (h1 : v ≤ 9223372036854775807) : atoiV (Lib.itoa v) = v := by
  unfold atoiV
  rw [atoi_itoa v h0 h1]
theorem step_back (x o o' : Ins) (c : UInt8) (hx : FitsI x) (hk : keyB c = true) (h : stepR x o c = some o') : stepP o [c] (pieceI x c) = o' := by
  have reg : ∀ (v : Int), mayI v 68 = true → atoiV (Lib.trimPrefix (120 :: Lib.itoa v) [120]) = v := fun v hv => by
    have : 0 ≤ v ∧ v < 32 := by simpa [mayI] using hv
    rw [trim_x, atoiV_itoa v (by omega) (by omega)]
  have num : atoiV (Lib.trimPrefix (Lib.itoa x.n) [120]) = x.n := by rw [trim_num, atoiV_itoa _ hx.1 hx.2]
  rcases keys_cases hk with rfl | rfl | rfl | rfl | rfl | rfl
  · have e : stepR x o 68 = if mayI x.d 68 = true then some (setI o 68 x.d) else none := rfl
    rw [e] at h
    split at h
    · rename_i hm
      cases h
      show setI o 68 (atoiV (Lib.trimPrefix (120 :: Lib.itoa x.d) [120])) = _
      rw [reg _ hm]
    · cases h
  · have e : stepR x o 65 = if mayI x.a 65 = true then some (setI o 65 x.a) else none := rfl
    rw [e] at h
    split at h
    · rename_i hm
      cases h
      show setI o 65 (atoiV (Lib.trimPrefix (120 :: Lib.itoa x.a) [120])) = _
      rw [reg _ hm]
    · cases h
  · have e : stepR x o 66 = if mayI x.b 66 = true then some (setI o 66 x.b) else none := rfl
    rw [e] at h
    split at h
    · rename_i hm
      cases h
      show setI o 66 (atoiV (Lib.trimPrefix (120 :: Lib.itoa x.b) [120])) = _
      rw [reg _ hm]
    · cases h
  · have e : stepR x o 78 = if mayI x.n 78 = true then some (setI o 78 x.n) else none := rfl
    rw [e] at h
    split at h
    · cases h
      show setI o 78 (atoiV (Lib.trimPrefix (Lib.itoa x.n) [120])) = _
      rw [num]
    · cases h
  · have e : stepR x o 83 = if mayI x.n 83 = true then some (setI o 83 x.n) else none := rfl
    rw [e] at h
    split at h
    · cases h
      show setI o 83 (atoiV (Lib.trimPrefix (Lib.itoa x.n) [120])) = _
      rw [num]
    · cases h
  · have e : stepR x o 76 = some { o with name := x.name } := rfl
    rw [e] at h
    cases h
    rfl
theorem fold_back (x : Ins) (hx : FitsI x) : ∀ (ks : Bs) (o o' : Ins), (∀ c, c ∈ ks → keyB c = true) → foldR x ks o = some o' → foldP (ks.map fun c => [c]) (ks.map (pieceI x)) o = o'
  | [], o, o', _, h => by
    have h : some o = some o' := h
    cases h; rfl
  | c :: ks, o, o', hk, h => by
    unfold foldR at h
    cases hs : stepR x o c with
    | none => rw [hs] at h; cases h
    | some o1 =>
      rw [hs] at h
      show foldP _ _ (stepP o [c] (pieceI x c)) = o'
      rw [step_back x o o1 c hx (hk c List.mem_cons_self) hs]
      exact fold_back x hx ks o1 o' (fun d hd => hk d (List.mem_cons_of_mem _ hd)) h
theorem keys_mem {f : Bs} {c : UInt8} (h : c ∈ keysB f) : c ∈ f ∧ sepB c = false := by
  simpa [keysB] using h
theorem read_back (x : Ins) (hx : FitsI x) (h : rightI x = true) : readI x.op ((rowI x.op).2.flatMap (pieceI x)) = x := by
  obtain ⟨ho, _, _⟩ := right_open h
  obtain ⟨ha, hf, _⟩ := row_ok x.op
  unfold readI
  have e1 : wordsI (rowI x.op).2 = (keysB (rowI x.op).2).map fun c => [c] := by
    rw [wordsI_ascii _ (fun c hc => (hf c hc).2)]
    have := fields_alt (fun c => [c]) (fun _ _ => rfl) (rowI x.op).2 (fun c _ hs => ⟨List.cons_ne_nil _ _, fun d hd => by rw [List.mem_singleton.1 hd]; exact hs⟩) ha
    simpa using this
  have e2 : wordsI ((rowI x.op).2.flatMap (pieceI x)) = (keysB (rowI x.op).2).map (pieceI x) := by
    rw [wordsI_ascii _ (fun c hc => ?_)]
    · exact fields_alt (pieceI x) (piece_sep x) (rowI x.op).2 (fun c hc hs => ⟨(piece_ok h c hc hs).1, fun d hd => ((piece_ok h c hc hs).2 d hd).1⟩) ha
    · obtain ⟨a, ha, hb⟩ := List.mem_flatMap.1 hc
      by_cases hs : sepB a = true
      · rw [piece_sep x a hs, List.mem_singleton] at hb
        rw [hb]; exact (hf a ha).2
      · exact ((piece_ok h a ha (by simpa using hs)).2 c hb).2
  rw [e1, e2]
  refine fold_back x hx _ _ _ (fun c hc => ?_) (by rw [← foldR_keys]; exact ho)
  obtain ⟨h1, h2⟩ := keys_mem hc
  rcases (hf c h1).1 with h' | h'
  · rw [h2] at h'; cases h'
  · exact h'
/-! ### What is cut -/
theorem index_space : ∀ (w r : Bs), (32 : UInt8) ∉ w → Lib.index (w ++ 32 :: r) [32] = w.length
  | [], r, _ => by simp [Lib.index, List.isPrefixOf]
  | c :: w, r, h => by
    have hc : c ≠ 32 := fun e => h (by rw [e]; exact List.mem_cons_self)
    have ih := index_space w r (fun hm => h (List.mem_cons_of_mem _ hm))
    have hc' : ((32 : UInt8) == c) = false := by simpa using fun e => hc e.symm
    have hp : ([32] : Bs).isPrefixOf (c :: (w ++ 32 :: r)) = false := by simp [List.isPrefixOf, hc']
    rw [List.cons_append]
    unfold Lib.index
    rw [hp, ih]
    have : ((w.length : Int) == -1) = false := by rw [beq_eq_false_iff_ne]; omega
    simp [this]
theorem index_none : ∀ (w : Bs), (32 : UInt8) ∉ w → Lib.index w [32] = -1
  | [], _ => by simp [Lib.index]
  | c :: w, h => by
    have hc : c ≠ 32 := fun e => h (by rw [e]; exact List.mem_cons_self)
    have ih := index_none w (fun hm => h (List.mem_cons_of_mem _ hm))
    have hc' : ((32 : UInt8) == c) = false := by simpa using fun e => hc e.symm
    have hp : ([32] : Bs).isPrefixOf (c :: w) = false := by simp [List.isPrefixOf, hc']
    unfold Lib.index
    rw [hp, ih]
    simp
theorem cut_space (w r : Bs) (h : (32 : UInt8) ∉ w) : Lib.cut (w ++ 32 :: r) [32] = (w, r, true) := by
  unfold Lib.cut
  rw [index_space w r h, if_pos (by omega)]
  simp
theorem cut_none (w : Bs) (h : (32 : UInt8) ∉ w) : Lib.cut w [32] = (w, [], false) := by
  unfold Lib.cut
  rw [index_none w h, if_neg (by decide)]
theorem cut_text (x : Ins) : (Lib.cut (textI x) [32]).1 = (rowI x.op).1 ∧ (Lib.cut (textI x) [32]).2.1 = (rowI x.op).2.flatMap (pieceI x) := by
  have hw := (row_ok x.op).2.2
  unfold textI
  by_cases he : (rowI x.op).2 = []
  · rw [if_pos he, he]
    simp only [List.flatMap_nil, List.append_nil]
    rw [cut_none _ hw]; exact ⟨rfl, rfl⟩
  · rw [if_neg he, List.singleton_append, cut_space _ _ hw]; exact ⟨rfl, rfl⟩
theorem right_op {x : Ins} (h : rightI x = true) : 1 ≤ x.op ∧ x.op ≤ 28 := by
  have hw := (right_open h).2.1
  rcases row_mem x.op with h' | ⟨_, h1, h2, h3⟩
  · rw [h'] at hw; exact absurd rfl hw
  · by_cases h0 : x.op = 0
    · rw [h0] at hw; exact absurd rfl hw
    · omega
theorem find_back (x : Ins) (word rest s : Bs) (hr : rightI x = true) (hs : textI x = s) (hw : (rowI x.op).1 = word) (hb : readI x.op rest = x) : ∀ (k : Nat) (op : Int), 1 ≤ op → op ≤ x.op → x.op < op + k → findI word rest s k op = some x
  | 0, op, _, h1, h2 => by omega
  | k + 1, op, h0, h1, h2 => by
    unfold findI
    by_cases he : op = x.op
    · subst he
      rw [if_pos ⟨hw, by rw [hb]; exact hr, by rw [hb]; exact hs⟩, hb]
    · rw [if_neg]
      · exact find_back x word rest s hr hs hw hb k (op + 1) (by omega) (by omega) (by omega)
      · intro hc
        have := right_op hr
        exact he (word_inj op x.op (by omega) (by omega) (by omega) (by omega) (by rw [hc.1, hw]))
/-- Parse undoes Print. -/
theorem parse_back (x : Ins) (hx : FitsI x) (h : rightI x = true) : parseI (textI x) = some x := by
  unfold parseI
  obtain ⟨h1, h2⟩ := cut_text x
  rw [h1, h2]
  have := right_op h
  exact find_back x _ _ _ h rfl rfl (read_back x hx h) 28 1 (by omega) (by omega) (by omega)
theorem text_inj (x y : Ins) (hx : FitsI x) (hy : FitsI y) (h : rightI x = true) (h' : rightI y = true) (e : textI x = textI y) : x = y := by
  have a := parse_back x hx h
  have b := parse_back y hy h'
  rw [e, b] at a
  cases a; rfl
end Go.Proofs.YtgdnnaiidmfncaaDoor
