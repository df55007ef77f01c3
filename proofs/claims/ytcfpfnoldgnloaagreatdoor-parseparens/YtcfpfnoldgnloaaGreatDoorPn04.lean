/-
  The plain parser leaves less than it is given. Plain functions alone.
  A parser in memory: the tokens that are left; what its methods leave. No condition.
  is, take, want, kind, name: the next token. Conditions: the parser lies in memory.
  want of two; kind, name. Conditions: the parser lies in memory.
  The operators' rows, signs and levels: what arith.rowOf, Sign and Level answer. No condition.
  unary, binary: which operator is next. Conditions: the parser lies in memory.
-/
import Derived.Test.YtcfpfnoldgnloaaGreatDoorPn03
import Derived.Test.YtcfpfnoldgnloaaGreatDoorPn00
import Derived.Deep.Cut
import Derived.IntWalk
set_option linter.unusedVariables false
set_option linter.unusedSimpArgs false
namespace Go.Proofs.YtcfpfnoldgnloaaGreatDoor
set_option maxRecDepth 100000
set_option maxHeartbeats 4000000

theorem take_yes {s : Bs} {t : Tk} {r : List Tk} (h : isP s t = true) : takeP s (t :: r) = some r := by
  show (if isP s t = true then some r else none) = some r
  rw [if_pos h]
theorem take_no {s : Bs} {t : Tk} {r : List Tk} (h : isP s t = false) : takeP s (t :: r) = none := by
  show (if isP s t = true then some r else none) = none
  rw [if_neg (by rw [h]; decide)]
theorem want_yes {s : Bs} {t : Tk} {r : List Tk} (h : isP s t = true) : ywantP s (t :: r) = .ok r := by
  unfold ywantP; rw [take_yes h]
theorem take_less {s : Bs} {l r : List Tk} (h : takeP s l = some r) : r.length < l.length := by
  cases l with
  | nil => cases h
  | cons t l =>
    have h : (if isP s t = true then some l else none) = some r := h
    split at h
    · injection h with h; subst h; simp
    · cases h
theorem want_less {s : Bs} {l r : List Tk} (h : ywantP s l = .ok r) : r.length < l.length := by
  unfold ywantP at h
  cases ht : takeP s l with
  | none => rw [ht] at h; cases h
  | some q => rw [ht] at h; injection h with h; subst h; exact take_less ht
theorem kind_less {k : Int} {l r : List Tk} {t : Tk} (h : kindP k l = .ok (t, r)) : r.length < l.length := by
  cases l with
  | nil => cases h
  | cons u l =>
    have h : (if u.kind = k then Except.ok (u, l) else Except.error u.line) = .ok (t, r) := h
    split at h
    · injection h with h; injection h with h1 h2; subst h2; simp
    · cases h
theorem name_less {l r : List Tk} {s : Bs} (h : nameP l = .ok (s, r)) : r.length < l.length := by
  unfold nameP at h
  cases hk : kindP 1 l with
  | error e => rw [hk] at h; cases h
  | ok q =>
    obtain ⟨t, q⟩ := q
    rw [hk] at h
    injection h with h; injection h with h1 h2; subst h2
    exact kind_less hk
theorem unary_less {l r : List Tk} {op : Int} (h : unaryP l = some (op, r)) : r.length < l.length := by
  unfold unaryP at h
  cases h1 : takeP (signOf 17) l with
  | some q => rw [h1] at h; injection h with h; injection h with _ h; subst h; exact take_less h1
  | none =>
    rw [h1] at h
    dsimp only at h
    cases h2 : takeP (signOf 18) l with
    | some q => rw [h2] at h; injection h with h; injection h with _ h; subst h; exact take_less h2
    | none =>
      rw [h2] at h
      dsimp only at h
      cases h3 : takeP (signOf 19) l with
      | some q => rw [h3] at h; injection h with h; injection h with _ h; subst h; exact take_less h3
      | none => rw [h3] at h; cases h
theorem parse_less : ∀ f : Nat,
    (∀ lv l x r, climbP f lv l = .ok (x, r) → r.length < l.length) ∧ (∀ lv y l x r, loopP f lv y l = .ok (x, r) → r.length ≤ l.length) ∧ (∀ l x r, tightP f l = .ok (x, r) → r.length < l.length) ∧
    (∀ s l x r, namedP f s l = .ok (x, r) → r.length ≤ l.length) ∧ (∀ l x r, argsP f l = .ok (x, r) → r.length < l.length) ∧ (∀ a l x r, moreP f a l = .ok (x, r) → r.length < l.length)
  | 0 => ⟨fun lv l x r h => (by cases h), fun lv y l x r h => (by cases h), fun l x r h => (by cases h), fun s l x r h => (by cases h), fun l x r h => (by cases h), fun a l x r h => (by cases h)⟩
  | f + 1 => by
    obtain ⟨ic, il, it, inm, ia, im⟩ := parse_less f
    refine ⟨?_, ?_, ?_, ?_, ?_, ?_⟩
    · intro lv l x r h
      unfold climbP at h
      cases ht : tightP f l with
      | error e => rw [ht] at h; cases h
      | ok q =>
        obtain ⟨y, q⟩ := q
        rw [ht] at h
        have h1 := it _ _ _ ht
        have h2 := il _ _ _ _ _ h
        omega
    · intro lv y l x r h
      unfold loopP at h
      split at h
      · injection h with h; injection h with _ h; subst h; exact Nat.le_refl _
      · cases hc : climbP f (levelOf (binaryP lv l) + 1) (l.drop 1) with
        | error e => rw [hc] at h; cases h
        | ok q =>
          obtain ⟨z, q⟩ := q
          rw [hc] at h
          have h1 := ic _ _ _ _ hc
          have h2 := il _ _ _ _ _ h
          rw [List.length_drop] at h1
          omega
    · intro l x r h
      unfold tightP at h
      cases hu : unaryP l with
      | some q =>
        obtain ⟨op, q⟩ := q
        rw [hu] at h
        dsimp only at h
        have h0 := unary_less hu
        cases ht : tightP f q with
        | error e => rw [ht] at h; cases h
        | ok z =>
          obtain ⟨y, z⟩ := z
          rw [ht] at h
          injection h with h; injection h with _ h; subst h
          have := it _ _ _ ht; omega
      | none =>
        rw [hu] at h
        dsimp only at h
        cases h1 : takeP [40] l with
        | some q =>
          rw [h1] at h
          dsimp only at h
          have h0 := take_less h1
          cases hc : climbP f 1 q with
          | error e => rw [hc] at h; cases h
          | ok z =>
            obtain ⟨y, z⟩ := z
            rw [hc] at h
            dsimp only at h
            have h2 := ic _ _ _ _ hc
            cases hw : ywantP [41] z with
            | error e => rw [hw] at h; cases h
            | ok v =>
              rw [hw] at h
              injection h with h; injection h with _ h; subst h
              have := want_less hw; omega
        | none =>
          rw [h1] at h
          dsimp only at h
          cases h2 : takeP [114, 101, 97, 100] l with
          | some q =>
            rw [h2] at h
            dsimp only at h
            have h0 := take_less h2
            cases hw : ywantP [40] q with
            | error e => rw [hw] at h; cases h
            | ok v =>
              rw [hw] at h
              dsimp only at h
              have h3 := want_less hw
              cases hz : ywantP [41] v with
              | error e => rw [hz] at h; cases h
              | ok z =>
                rw [hz] at h
                injection h with h; injection h with _ h; subst h
                have := want_less hz; omega
          | none =>
            rw [h2] at h
            dsimp only at h
            cases l with
            | nil => cases h
            | cons t l =>
              dsimp only at h
              split at h
              · injection h with h; injection h with _ h; subst h; simp
              · split at h
                · have := inm _ _ _ _ h; simp; omega
                · cases h
    · intro s l x r h
      unfold namedP at h
      cases h1 : takeP [40] l with
      | some q =>
        rw [h1] at h
        dsimp only at h
        have h0 := take_less h1
        cases ha : argsP f q with
        | error e => rw [ha] at h; cases h
        | ok z =>
          obtain ⟨y, z⟩ := z
          rw [ha] at h
          injection h with h; injection h with _ h; subst h
          have := ia _ _ _ ha; omega
      | none =>
        rw [h1] at h
        dsimp only at h
        cases h2 : takeP [91] l with
        | some q =>
          rw [h2] at h
          dsimp only at h
          have h0 := take_less h2
          cases hc : climbP f 1 q with
          | error e => rw [hc] at h; cases h
          | ok z =>
            obtain ⟨y, z⟩ := z
            rw [hc] at h
            dsimp only at h
            have h3 := ic _ _ _ _ hc
            cases hw : ywantP [93] z with
            | error e => rw [hw] at h; cases h
            | ok v =>
              rw [hw] at h
              injection h with h; injection h with _ h; subst h
              have := want_less hw; omega
        | none =>
          rw [h2] at h
          injection h with h; injection h with _ h; subst h; exact Nat.le_refl _
    · intro l x r h
      unfold argsP at h
      cases h1 : takeP [41] l with
      | some q =>
        rw [h1] at h
        injection h with h; injection h with _ h; subst h
        exact take_less h1
      | none => rw [h1] at h; exact im _ _ _ _ h
    · intro a l x r h
      unfold moreP at h
      cases hc : climbP f 1 l with
      | error e => rw [hc] at h; cases h
      | ok z =>
        obtain ⟨y, z⟩ := z
        rw [hc] at h
        dsimp only at h
        have h3 := ic _ _ _ _ hc
        cases h2 : takeP [44] z with
        | some q =>
          rw [h2] at h
          have h0 := take_less h2
          have := im _ _ _ _ h; omega
        | none =>
          rw [h2] at h
          dsimp only at h
          cases hw : ywantP [41] z with
          | error e => rw [hw] at h; cases h
          | ok v =>
            rw [hw] at h
            injection h with h; injection h with _ h; subst h
            have := want_less hw; omega
end Go.Proofs.YtcfpfnoldgnloaaGreatDoor

namespace Go.Proofs.YtcfpfnoldgnloaaGreatDoor
open Go.RowKit
set_option maxRecDepth 100000
set_option maxHeartbeats 4000000

/-- Tokens, one behind the other, from a place on. -/
def TokRow (w : World) (tb : Nat) : Nat → List Tk → Prop
  | _, [] => True
  | o, t :: l => w.cell? ⟨tb, o, none⟩ = some (.int .i64 t.kind) ∧ w.cell? ⟨tb, o + 1, none⟩ = some (.string (strOf t.text)) ∧ w.cell? ⟨tb, o + 2, none⟩ = some (.int .i64 t.num) ∧ w.cell? ⟨tb, o + 3, none⟩ = some (.int .i64 t.line) ∧ TokRow w tb (o + 4) l
theorem TokRow.keep {w w' : World} {tb : Nat} (hk : Keeps (· = tb) w w') : ∀ {l : List Tk} {o : Nat}, TokRow w tb o l → TokRow w' tb o l
  | [], _, _ => trivial
  | t :: l, o, h => ⟨hk _ _ _ rfl h.1, hk _ _ _ rfl h.2.1, hk _ _ _ rfl h.2.2.1, hk _ _ _ rfl h.2.2.2.1, TokRow.keep hk h.2.2.2.2⟩
/-- The last one is the end, and no other. -/
def EndsTk : List Tk → Prop
  | [] => False
  | [t] => t.kind = 5
  | _ :: u :: r => EndsTk (u :: r)
theorem EndsTk.tail {t : Tk} {r : List Tk} (h : EndsTk (t :: r)) (hk : t.kind ≠ 5) : EndsTk r := by
  cases r with
  | nil => exact absurd h hk
  | cons u r => exact h
theorem EndsTk.ne {l : List Tk} (h : EndsTk l) : ∃ t r, l = t :: r := by
  cases l with
  | nil => exact h.elim
  | cons t r => exact ⟨t, r, rfl⟩
theorem isP_kind {s : Bs} {t : Tk} (h : isP s t = true) : t.kind ≠ 5 := by
  intro e
  unfold isP at h
  rw [e] at h
  simp at h
structure PsAt (w : World) (p tb o cap : Nat) (l : List Tk) : Prop where
  own : OwnAt w p [.slice (some ⟨tb, o, none⟩) l.length cap] 113
  row : TokRow w tb o l
  hcap : l.length ≤ cap
  fit : l.length ≤ 1000000
  lt : tb < p
  ends : EndsTk l
  nums : ∀ t, t ∈ l → I64 t.num
def Ps (w : World) (p tb : Nat) (l : List Tk) : Prop := ∃ o cap, PsAt w p tb o cap l
theorem PsAt.old {w w' : World} {p tb o cap : Nat} {l : List Tk} (h : PsAt w p tb o cap l) (hb : Below w.heap.size w w') : PsAt w' p tb o cap l :=
  ⟨h.own.old hb, h.row.keep (keeps_below hb), h.hcap, h.fit, h.lt, h.ends, h.nums⟩
theorem Ps.old {w w' : World} {p tb : Nat} {l : List Tk} (h : Ps w p tb l) (hb : Below w.heap.size w w') : Ps w' p tb l := by
  obtain ⟨o, cap, h⟩ := h; exact ⟨o, cap, h.old hb⟩
theorem Ps.alloc {w : World} {p tb : Nat} {l : List Tk} (h : Ps w p tb l) (x : Obj) : Ps (w.alloc x) p tb l := h.old ((Below.refl _ _).alloc (Nat.le_refl _) _)
theorem PsAt.other {w : World} {p tb o cap : Nat} {l : List Tk} (h : PsAt w p tb o cap l) {k : Nat} (hk : p < k) (i : Nat) (v : Value) : PsAt (w.setCell ⟨k, i, none⟩ v) p tb o cap l :=
  ⟨h.own.other (Nat.ne_of_lt hk) i v, h.row.keep (keeps_set w (by have := h.lt; show ¬ k = tb; omega) i v), h.hcap, h.fit, h.lt, h.ends, h.nums⟩
theorem Ps.other {w : World} {p tb : Nat} {l : List Tk} (h : Ps w p tb l) {k : Nat} (hk : p < k) (i : Nat) (v : Value) : Ps (w.setCell ⟨k, i, none⟩ v) p tb l := by
  obtain ⟨o, cap, h⟩ := h; exact ⟨o, cap, h.other hk i v⟩
theorem Ps.lt {w : World} {p tb : Nat} {l : List Tk} (h : Ps w p tb l) : p < w.heap.size := by
  obtain ⟨o, cap, h⟩ := h; exact h.own.lt
theorem Ps.ends {w : World} {p tb : Nat} {l : List Tk} (h : Ps w p tb l) : EndsTk l := by
  obtain ⟨o, cap, h⟩ := h; exact h.ends
theorem Ps.nums {w : World} {p tb : Nat} {l : List Tk} (h : Ps w p tb l) : ∀ t, t ∈ l → I64 t.num := by
  obtain ⟨o, cap, h⟩ := h; exact h.nums
/-- The first token is taken. -/
theorem PsAt.take {w : World} {p tb o cap : Nat} {t : Tk} {r : List Tk} (h : PsAt w p tb o cap (t :: r)) (hk : t.kind ≠ 5) :
    Ps (w.setCell ⟨p, 0, none⟩ (.slice (some ⟨tb, o + 4, none⟩) r.length (cap - 1))) p tb r ∧ SFr p w (w.setCell ⟨p, 0, none⟩ (.slice (some ⟨tb, o + 4, none⟩) r.length (cap - 1))) := by
  have hc := h.hcap
  have hf := h.fit
  have hl := h.lt
  rw [List.length_cons] at hc hf
  refine ⟨⟨o + 4, cap - 1, ?_, ?_, by omega, by omega, hl, h.ends.tail hk, fun x hx => h.nums x (List.mem_cons_of_mem _ hx)⟩, ⟨rfl, rfl, rfl, by simp [World.setCell], fun k _ hk => Below.heap_setCell _ _ _ _ hk⟩⟩
  · exact h.own.set 0 _
  · exact TokRow.keep (keeps_set w (by show ¬ p = tb; omega) 0 _) h.row.2.2.2.2
def tkV (t : Tk) : Value := .agg #[.int .i64 t.kind, .string (strOf t.text), .int .i64 t.num, .int .i64 t.line]
/-- What a method leaves: the tokens that are left, and what it gives; or a panic with the line. -/
def lineV (n : Int) : Ending := .panicked [{ v := .iface 110 (.agg #[.int .i64 n]), recovered := false }]
def PEnd {α : Type} (H : α → Value → World → Prop) (w : World) (p tb : Nat) (r : PR α) (e : Ending) (w' : World) : Prop :=
  SFr p w w' ∧ match r with
    | .ok (x, l) => ∃ v, e = .returned v ∧ Ps w' p tb l ∧ H x v w'
    | .error n => e = lineV n
theorem set4s (w : World) (b : Nat) (v0 v1 v2 v3 : Value) {B : Nat} (w0 : World) (h : Below B w0 w) (hb : B ≤ b) : Below B w0 ((((w.setCell ⟨b, 0, none⟩ v0).setCell ⟨b, 1, none⟩ v1).setCell ⟨b, 2, none⟩ v2).setCell ⟨b, 3, none⟩ v3) :=
  (((h.setCell (p := ⟨b, 0, none⟩) hb v0).setCell (p := ⟨b, 1, none⟩) hb v1).setCell (p := ⟨b, 2, none⟩) hb v2).setCell (p := ⟨b, 3, none⟩) hb v3

theorem psNext_any (p tb : Nat) (t : Tk) (r : List Tk) (w : World) (h : Ps w p tb (t :: r)) :
    Calls Tryz.prog 58 #[.pointer (some ⟨p, 0, none⟩)] w fun e w' => e = .returned (tkV t) ∧ Below w.heap.size w w' := by
  obtain ⟨o, cap, h⟩ := h
  have hb1 : Below w.heap.size w (w.alloc (.cells #[.int .i64 0, .string ⟨#[]⟩, .int .i64 0, .int .i64 0] 50)) := (Below.refl _ _).alloc (Nat.le_refl _) _
  have h1 := h.old hb1
  have c0 := h1.own.at 0 _ rfl
  obtain ⟨r0, r1, r2, r3, _⟩ := h1.row
  have hpl := h.own.lt
  have hcap := h.hcap
  have htl := h.lt
  have hn0 : (0 : Int) < ((t :: r).length : Int) := by rw [List.length_cons]; omega
  have hn1 : 0 < (t :: r).length := by simp
  clear h h1 hb1
  generalize (t :: r).length = n at *
  go_enter Tryz.func58, Tryz.ntmps58
  go_wp2_with fail
  exact bodyPost_ret (v := tkV t) (by simp [tkV, results, Tryz.results58, go_sem]) rfl ⟨rfl, (Below.refl _ _).alloc (Nat.le_refl _) _⟩
@[go_sem] theorem field_tk0 (a b c d : Value) (w : World) : (Instr.field 50 (.agg #[a, b, c, d]) 0).run Tryz.prog w = .ok a w := by kernel_rfl
@[go_sem] theorem field_tk1 (a b c d : Value) (w : World) : (Instr.field 50 (.agg #[a, b, c, d]) 1).run Tryz.prog w = .ok b w := by kernel_rfl
@[go_sem] theorem field_tk3 (a b c d : Value) (w : World) : (Instr.field 50 (.agg #[a, b, c, d]) 3).run Tryz.prog w = .ok d w := by kernel_rfl
theorem psFail_any (p tb : Nat) (t : Tk) (r : List Tk) (w : World) (h : Ps w p tb (t :: r)) :
    Calls Tryz.prog 59 #[.pointer (some ⟨p, 0, none⟩)] w fun e w' => e = lineV t.line ∧ Below w.heap.size w w' := by
  have HN := Lib.hid (psNext_any p tb t r w h)
  clear h
  go_enter Tryz.func59, Tryz.ntmps59
  go_wp2_with fail
  refine HN.out.mono ?_
  rintro e w1 ⟨rfl, hb⟩
  unfold tkV
  have HB := Lib.hid hb
  clear hb
  go_wp2_with fail
  exact ⟨rfl, rfl, HB.out⟩
end Go.Proofs.YtcfpfnoldgnloaaGreatDoor

namespace Go.Proofs.YtcfpfnoldgnloaaGreatDoor
open Go.RowKit
set_option maxRecDepth 100000
set_option maxHeartbeats 4000000

theorem psIs_any (p tb : Nat) (t : Tk) (r : List Tk) (s : Bs) (w : World) (h : Ps w p tb (t :: r)) :
    Calls Tryz.prog 124 #[.pointer (some ⟨p, 0, none⟩), .string (strOf s)] w fun e w' => e = .returned (.bool (isP s t)) ∧ Below w.heap.size w w' := by
  have HN := Lib.hid (psNext_any p tb t r w h)
  clear h
  have hbi : isP s t = ((t.kind == 2 || t.kind == 4) && t.text == s) := rfl
  rw [hbi]
  cases e2 : (t.kind == 2)
  · cases e4 : (t.kind == 4)
    · clear hbi
      go_enter Tryz.func124, Tryz.ntmps124
      go_wp2_with fail
      refine HN.out.mono ?_
      rintro e w1 ⟨rfl, hb⟩
      unfold tkV
      have HB := Lib.hid hb
      clear hb
      go_wp2_with fail
      go_ret
      exact ⟨rfl, HB.out.alloc HB.out.size _⟩
    · have n2 : t.kind ≠ 2 := by simpa using e2
      clear hbi
      go_enter Tryz.func124, Tryz.ntmps124
      go_wp2_with fail
      refine HN.out.mono ?_
      rintro e w1 ⟨rfl, hb⟩
      unfold tkV
      have HB := Lib.hid hb
      clear hb
      go_wp2_with fail
      go_ret
      exact ⟨by simp, HB.out.alloc HB.out.size _⟩
  · clear hbi
    go_enter Tryz.func124, Tryz.ntmps124
    go_wp2_with fail
    refine HN.out.mono ?_
    rintro e w1 ⟨rfl, hb⟩
    unfold tkV
    have HB := Lib.hid hb
    clear hb
    go_wp2_with fail
    go_ret
    exact ⟨by simp, HB.out.alloc HB.out.size _⟩
theorem psTake_no (p tb : Nat) (t : Tk) (r : List Tk) (s : Bs) (w : World) (h : Ps w p tb (t :: r)) (hs : isP s t = false) :
    Calls Tryz.prog 66 #[.pointer (some ⟨p, 0, none⟩), .string (strOf s)] w fun e w' => e = .returned (.bool false) ∧ Below w.heap.size w w' := by
  have HN := Lib.hid (psIs_any p tb t r s w h)
  rw [hs] at HN
  clear h hs
  go_enter Tryz.func66, Tryz.ntmps66
  go_wp2_with fail
  refine HN.out.mono ?_
  rintro e w1 ⟨rfl, hb⟩
  have HB := Lib.hid hb
  clear hb
  go_wp2_with fail
  go_ret
  exact ⟨rfl, HB.out⟩
theorem psTake_yes (p tb : Nat) (t : Tk) (r : List Tk) (s : Bs) (w : World) (h : Ps w p tb (t :: r)) (hs : isP s t = true) :
    Calls Tryz.prog 66 #[.pointer (some ⟨p, 0, none⟩), .string (strOf s)] w fun e w' => e = .returned (.bool true) ∧ SFr p w w' ∧ Ps w' p tb r := by
  have HN := Lib.hid (psIs_any p tb t r s w h)
  rw [hs] at HN
  have HK := Lib.hid (isP_kind hs)
  have HP := Lib.hid h
  clear h hs
  go_enter Tryz.func66, Tryz.ntmps66
  go_wp2_with fail
  refine HN.out.mono ?_
  rintro e w1 ⟨rfl, hb⟩
  have HB := Lib.hid hb
  obtain ⟨o, cap, h1⟩ := HP.out.old hb
  have HT := Lib.hid (h1.take HK.out)
  have c0 := h1.own.at 0 _ rfl
  have z0 := h1.own.fz 0
  have hpl := h1.own.lt
  have hcap := h1.hcap
  have hfit := h1.fit
  obtain ⟨n, hn⟩ : ∃ n, r.length = n := ⟨_, rfl⟩
  rw [List.length_cons, hn] at c0 hcap
  rw [hn] at HT
  have hr0 : 0 < n := by
    obtain ⟨u, q, rfl⟩ := (h1.ends.tail HK.out).ne
    rw [← hn]; simp
  have i1 : (1 : Int) ≤ (n : Int) + 1 := by omega
  have i2 : ((n : Int) + 1) ≤ (cap : Int) := by omega
  have i3 : ¬ (cap : Int) - 1 = 0 := by omega
  have i4 : ¬ cap - 1 = 0 := by omega
  clear hb h1
  go_wp2_with fail
  go_ret
  exact ⟨rfl, (SFr.of_below HB.out).trans HT.out.2, HT.out.1⟩
/-- What a method leaves that gives nothing. -/
def WEnd (w : World) (p tb : Nat) (r : Except Int (List Tk)) (e : Ending) (w' : World) : Prop :=
  SFr p w w' ∧ match r with
    | .ok l => e = .returned (.tuple #[]) ∧ Ps w' p tb l
    | .error n => e = lineV n
theorem psWant_one (p tb : Nat) (l : List Tk) (s : Bs) (w : World) (h : Ps w p tb l) (b c : Nat) (hc : w.cell? ⟨b, 0, none⟩ = some (.string (strOf s))) :
    Calls Tryz.prog 64 #[.pointer (some ⟨p, 0, none⟩), .slice (some ⟨b, 0, none⟩) 1 c] w (WEnd w p tb (ywantP s l)) := by
  obtain ⟨t, r, rfl⟩ := h.ends.ne
  cases hs : isP s t with
  | true =>
    rw [want_yes hs]
    have HT := Lib.hid (psTake_yes p tb t r s w h hs)
    clear h hs
    go_enter Tryz.func64, Tryz.ntmps64
    go_wp2_with fail
    refine wp_loop_rounds 2 ?_
    rw [rounds_succ]
    go_wp2_with fail
    refine HT.out.mono ?_
    rintro e w1 ⟨rfl, hf, hp⟩
    have HF := Lib.hid hf
    have HP := Lib.hid hp
    clear hf hp
    go_wp2_with fail
    rw [rounds_succ]
    go_wp2_with fail
    go_end0
    exact ⟨HF.out, rfl, HP.out⟩
  | false =>
    have e : ywantP s (t :: r) = .error t.line := by unfold ywantP; rw [take_no hs]; rfl
    rw [e]
    have HT := Lib.hid (psTake_no p tb t r s w h hs)
    have HP := Lib.hid h
    clear h hs e
    go_enter Tryz.func64, Tryz.ntmps64
    go_wp2_with fail
    refine wp_loop_rounds 1 ?_
    rw [rounds_succ]
    go_wp2_with fail
    refine HT.out.mono ?_
    rintro e w1 ⟨rfl, hb⟩
    have HB := Lib.hid hb
    have HL := Lib.hid (psFail_any p tb t r w1 (HP.out.old hb))
    clear hb
    go_wp2_with fail
    refine HL.out.mono ?_
    rintro e w2 ⟨rfl, hb⟩
    have HB2 := Lib.hid (HB.out.trans (hb.mono HB.out.size))
    clear hb
    unfold lineV
    go_wp2_with fail
    exact ⟨rfl, SFr.of_below HB2.out, rfl⟩
end Go.Proofs.YtcfpfnoldgnloaaGreatDoor

namespace Go.Proofs.YtcfpfnoldgnloaaGreatDoor
open Go.RowKit
set_option maxRecDepth 100000
set_option maxHeartbeats 4000000

/-- Two texts wanted, one behind the other. -/
def wantP2 (s u : Bs) (l : List Tk) : Except Int (List Tk) := match ywantP s l with
  | .ok r => ywantP u r
  | .error e => .error e
theorem want_no {s : Bs} {t : Tk} {r : List Tk} (h : isP s t = false) : ywantP s (t :: r) = .error t.line := by
  unfold ywantP; rw [take_no h]; rfl
theorem psWant_two (p tb : Nat) (l : List Tk) (s u : Bs) (w : World) (h : Ps w p tb l) (b c : Nat) (hc : w.cell? ⟨b, 0, none⟩ = some (.string (strOf s))) (hd : w.cell? ⟨b, 1, none⟩ = some (.string (strOf u))) (hbp : b ≠ p) :
    Calls Tryz.prog 64 #[.pointer (some ⟨p, 0, none⟩), .slice (some ⟨b, 0, none⟩) 2 c] w (WEnd w p tb (wantP2 s u l)) := by
  obtain ⟨t, r, rfl⟩ := h.ends.ne
  cases hs : isP s t with
  | true =>
    have hr : EndsTk r := h.ends.tail (isP_kind hs)
    obtain ⟨t2, q, rfl⟩ := hr.ne
    have HT := Lib.hid (psTake_yes p tb t (t2 :: q) s w h hs)
    have e1 : wantP2 s u (t :: t2 :: q) = ywantP u (t2 :: q) := by unfold wantP2; rw [want_yes hs]
    rw [e1]
    cases hu : isP u t2 with
    | true =>
      rw [want_yes hu]
      have HU : Hid (∀ w1, Ps w1 p tb (t2 :: q) → _) := fun w1 h1 => psTake_yes p tb t2 q u w1 h1 hu
      clear h hs hr e1 hu
      go_enter Tryz.func64, Tryz.ntmps64
      go_wp2_with fail
      refine wp_loop_rounds 3 ?_
      rw [rounds_succ]
      go_wp2_with fail
      refine HT.out.mono ?_
      rintro e w1 ⟨rfl, hf, hp⟩
      have HF := Lib.hid hf
      have HP := Lib.hid hp
      have d1 := hf.cell hbp hd
      clear hf hp
      go_wp2_with fail
      rw [rounds_succ]
      go_wp2_with fail
      refine (HU.out w1 HP.out).mono ?_
      rintro e w2 ⟨rfl, hf, hp⟩
      have HF2 := Lib.hid (HF.out.trans hf)
      have HP2 := Lib.hid hp
      clear hf hp
      go_wp2_with fail
      rw [rounds_succ]
      go_wp2_with fail
      go_end0
      exact ⟨HF2.out, rfl, HP2.out⟩
    | false =>
      rw [want_no hu]
      have HU : Hid (∀ w1, Ps w1 p tb (t2 :: q) → _) := fun w1 h1 => psTake_no p tb t2 q u w1 h1 hu
      have HL : Hid (∀ w1, Ps w1 p tb (t2 :: q) → _) := fun w1 h1 => psFail_any p tb t2 q w1 h1
      clear h hs hr e1 hu
      go_enter Tryz.func64, Tryz.ntmps64
      go_wp2_with fail
      refine wp_loop_rounds 2 ?_
      rw [rounds_succ]
      go_wp2_with fail
      refine HT.out.mono ?_
      rintro e w1 ⟨rfl, hf, hp⟩
      have HF := Lib.hid hf
      have HP := Lib.hid hp
      have d1 := hf.cell hbp hd
      clear hf hp
      go_wp2_with fail
      rw [rounds_succ]
      go_wp2_with fail
      refine (HU.out w1 HP.out).mono ?_
      rintro e w2 ⟨rfl, hb⟩
      have HF2 := Lib.hid (HF.out.trans (SFr.of_below hb))
      have HP2 := Lib.hid (HP.out.old hb)
      clear hb
      go_wp2_with fail
      refine (HL.out w2 HP2.out).mono ?_
      rintro e w3 ⟨rfl, hb⟩
      have HF3 := Lib.hid (HF2.out.trans (SFr.of_below hb))
      clear hb
      unfold lineV
      go_wp2_with fail
      exact ⟨rfl, HF3.out, rfl⟩
  | false =>
    have e1 : wantP2 s u (t :: r) = .error t.line := by unfold wantP2; rw [want_no hs]
    rw [e1]
    have HT := Lib.hid (psTake_no p tb t r s w h hs)
    have HL : Hid (∀ w1, Ps w1 p tb (t :: r) → _) := fun w1 h1 => psFail_any p tb t r w1 h1
    have HP := Lib.hid h
    clear h hs e1
    go_enter Tryz.func64, Tryz.ntmps64
    go_wp2_with fail
    refine wp_loop_rounds 1 ?_
    rw [rounds_succ]
    go_wp2_with fail
    refine HT.out.mono ?_
    rintro e w1 ⟨rfl, hb⟩
    have HF := Lib.hid (SFr.of_below (s := p) hb)
    have HP1 := Lib.hid (HP.out.old hb)
    clear hb
    go_wp2_with fail
    refine (HL.out w1 HP1.out).mono ?_
    rintro e w2 ⟨rfl, hb⟩
    have HF2 := Lib.hid (HF.out.trans (SFr.of_below hb))
    clear hb
    unfold lineV
    go_wp2_with fail
    exact ⟨rfl, HF2.out, rfl⟩
def TkH (t : Tk) (v : Value) (w : World) : Prop := v = tkV t
theorem psKind_any (p tb : Nat) (l : List Tk) (k : Int) (hk5 : k ≠ 5) (w : World) (h : Ps w p tb l) :
    Calls Tryz.prog 67 #[.pointer (some ⟨p, 0, none⟩), .int .i64 k] w (PEnd TkH w p tb (kindP k l)) := by
  obtain ⟨t, r, rfl⟩ := h.ends.ne
  by_cases hk : t.kind = k
  · subst hk
    have e1 : kindP t.kind (t :: r) = .ok (t, r) := by show (if t.kind = t.kind then Except.ok (t, r) else Except.error t.line) = _; rw [if_pos rfl]
    rw [e1]
    have hb1 : Below w.heap.size w (w.alloc (.cells #[.int .i64 0, .string ⟨#[]⟩, .int .i64 0, .int .i64 0] 50)) := (Below.refl _ _).alloc (Nat.le_refl _) _
    have HB := Lib.hid hb1
    have HP := Lib.hid (h.old hb1)
    have HN := Lib.hid (psNext_any p tb t r _ (h.old hb1))
    have HR := Lib.hid (OwnAt.new w [.int .i64 0, .string ⟨#[]⟩, .int .i64 0, .int .i64 0] 50)
    have HK := Lib.hid hk5
    have HPW := Lib.hid h.lt
    clear h hb1 e1 hk5
    go_enter Tryz.func67, Tryz.ntmps67
    go_wp2_with fail
    refine HN.out.mono ?_
    rintro e w1 ⟨rfl, hb⟩
    unfold tkV
    have HR1 := Lib.hid (HR.out.old hb)
    have HB1 := Lib.hid (HB.out.trans (hb.mono HB.out.size))
    have HP1 := Lib.hid (HP.out.old hb)
    clear hb
    go_upto_region 2 with (fail)
    obtain ⟨W, hW⟩ : ∃ W, w1.alloc (.cells #[.int .i64 t.kind, .string (strOf t.text), .int .i64 t.num, .int .i64 t.line] 50) = W := ⟨_, rfl⟩
    rw [hW]
    have hba : Below w1.heap.size w1 W := hW ▸ (Below.refl _ _).alloc (Nat.le_refl _) _
    have hps := HP1.out.old hba
    have HBW := Lib.hid (HB1.out.trans (hba.mono HB1.out.size))
    have HRW := Lib.hid (HR1.out.old hba)
    have HNW := Lib.hid (hW ▸ OwnAt.new w1 [.int .i64 t.kind, .string (strOf t.text), .int .i64 t.num, .int .i64 t.line] 50)
    clear hba hW
    have x0 := HNW.out.at 0 _ rfl
    go_upto_region 4 with (fail)
    obtain ⟨o, cap, h1⟩ := hps
    have HT := Lib.hid (h1.take HK.out)
    have c0 := h1.own.at 0 _ rfl
    have z0 := h1.own.fz 0
    have hpl := h1.own.lt
    have hcap := h1.hcap
    have hfit := h1.fit
    obtain ⟨n, hn⟩ : ∃ n, r.length = n := ⟨_, rfl⟩
    rw [List.length_cons, hn] at c0 hcap
    rw [hn] at HT
    have hr0 : 0 < n := by
      obtain ⟨u, q, rfl⟩ := (h1.ends.tail HK.out).ne
      rw [← hn]; simp
    have i1 : (1 : Int) ≤ (n : Int) + 1 := by omega
    have i2 : ((n : Int) + 1) ≤ (cap : Int) := by omega
    have i3 : ¬ (cap : Int) - 1 = 0 := by omega
    have i4 : ¬ cap - 1 = 0 := by omega
    clear h1
    go_upto_region 5 with (fail)
    have hpw := HPW.out
    have hw1 : p < w1.heap.size := HP1.out.lt
    have hpx : p ≠ w.heap.size := by omega
    have hpy : p ≠ w1.heap.size := by omega
    have HNV := Lib.hid (HNW.out.other (Ne.symm hpy) 0 (.slice (some ⟨tb, o + 4, none⟩) n (cap - 1)))
    have HRV := Lib.hid (HRW.out.other (Ne.symm hpx) 0 (.slice (some ⟨tb, o + 4, none⟩) n (cap - 1)))
    have HF := Lib.hid ((SFr.of_below HBW.out).trans HT.out.2)
    have HPV := Lib.hid HT.out.1
    clear HT c0 z0 x0
    generalize W.setCell ⟨p, 0, none⟩ (.slice (some ⟨tb, o + 4, none⟩) n (cap - 1)) = V at *
    have y0 := HNV.out.at 0 _ rfl
    have y1 := HNV.out.at 1 _ rfl
    have y2 := HNV.out.at 2 _ rfl
    have y3 := HNV.out.at 3 _ rfl
    have z0 := HRV.out.at 0 _ rfl
    have z1 := HRV.out.at 1 _ rfl
    have z2 := HRV.out.at 2 _ rfl
    have z3 := HRV.out.at 3 _ rfl
    have f0 := HRV.out.fz 0
    have f1 := HRV.out.fz 1
    have f2 := HRV.out.fz 2
    have f3 := HRV.out.fz 3
    go_wp2_with fail
    have HS := Lib.hid ((((HRV.out.set 0 (.int .i64 t.kind)).set 1 (.string (strOf t.text))).set 2 (.int .i64 t.num)).set 3 (.int .i64 t.line))
    have d0 := HS.out.at 0 _ rfl
    have d1 := HS.out.at 1 _ rfl
    have d2 := HS.out.at 2 _ rfl
    have d3 := HS.out.at 3 _ rfl
    exact bodyPost_ret (v := tkV t) (by simp [tkV, results, Tryz.results67, go_sem, d0, d1, d2, d3]) rfl ⟨(((HF.out.setNew (Nat.le_refl _) _ _).setNew (Nat.le_refl _) _ _).setNew (Nat.le_refl _) _ _).setNew (Nat.le_refl _) _ _, _, rfl, (((HPV.out.other hpw _ _).other hpw _ _).other hpw _ _).other hpw _ _, rfl⟩
  · have e1 : kindP k (t :: r) = .error t.line := by show (if t.kind = k then Except.ok (t, r) else Except.error t.line) = _; rw [if_neg hk]
    rw [e1]
    have hb1 : Below w.heap.size w (w.alloc (.cells #[.int .i64 0, .string ⟨#[]⟩, .int .i64 0, .int .i64 0] 50)) := (Below.refl _ _).alloc (Nat.le_refl _) _
    have HB := Lib.hid hb1
    have HP := Lib.hid (h.old hb1)
    have HN := Lib.hid (psNext_any p tb t r _ (h.old hb1))
    have HL : Hid (∀ w1, Ps w1 p tb (t :: r) → _) := fun w1 h1 => psFail_any p tb t r w1 h1
    have hne : (t.kind != k) = true := by simp [hk]
    have hne2 : (t.kind == k) = false := by simp [hk]
    clear h hb1 e1
    go_enter Tryz.func67, Tryz.ntmps67
    go_wp2_with fail
    refine HN.out.mono ?_
    rintro e w1 ⟨rfl, hb⟩
    unfold tkV
    have HB1 := Lib.hid (HB.out.trans (hb.mono HB.out.size))
    have HP1 := Lib.hid (HP.out.old hb)
    clear hb
    go_wp2_with fail
    refine (HL.out _ (HP1.out.alloc _)).mono ?_
    rintro e w3 ⟨rfl, hb⟩
    have HB3 := Lib.hid ((HB1.out.alloc HB1.out.size _).trans (hb.mono (HB1.out.alloc HB1.out.size _).size))
    clear hb
    unfold lineV
    go_wp2_with fail
    exact ⟨rfl, SFr.of_below HB3.out, rfl⟩
def NmH (s : Bs) (v : Value) (w : World) : Prop := v = .string (strOf s)
theorem psName_any (p tb : Nat) (l : List Tk) (w : World) (h : Ps w p tb l) :
    Calls Tryz.prog 65 #[.pointer (some ⟨p, 0, none⟩)] w (PEnd NmH w p tb (nameP l)) := by
  have HK := Lib.hid (psKind_any p tb l 1 (by decide) w h)
  clear h
  obtain ⟨R, hR⟩ : ∃ R, nameP l = R := ⟨_, rfl⟩
  rw [hR]
  go_enter Tryz.func65, Tryz.ntmps65
  go_wp2_with fail
  refine HK.out.mono ?_
  intro e w1 he
  cases hk : kindP 1 l with
  | error n =>
    rw [hk] at he
    have e1 : nameP l = .error n := by unfold nameP; rw [hk]
    rw [e1] at hR
    subst hR
    clear e1
    obtain ⟨hf, rfl⟩ := he
    have HF := Lib.hid hf
    clear hf HK
    unfold lineV
    go_wp2_with fail
    exact ⟨rfl, HF.out, rfl⟩
  | ok q =>
    obtain ⟨t, r⟩ := q
    rw [hk] at he
    have e1 : nameP l = .ok (t.text, r) := by unfold nameP; rw [hk]
    rw [e1] at hR
    subst hR
    clear e1
    obtain ⟨hf, v, rfl, hp, hv⟩ := he
    have HF := Lib.hid hf
    have HP := Lib.hid hp
    have hv : v = tkV t := hv
    subst hv
    unfold tkV
    clear hf hp HK
    go_wp2_with fail
    go_ret
    exact ⟨HF.out, _, rfl, HP.out, rfl⟩
end Go.Proofs.YtcfpfnoldgnloaaGreatDoor

namespace Go.Proofs.YtcfpfnoldgnloaaGreatDoor
open Go.RowKit
set_option maxHeartbeats 1000000
set_option maxRecDepth 20000

theorem row_eq {s : ByteArray} {l op : Int} {F1 F2 : Value} (hs : s = strOf (signOf op)) (hl : l = levelOf op) :
    ∃ f1 f2, Ending.returned (.agg #[.string s, .int .i64 l, F1, F2]) = .returned (.agg #[.string (strOf (signOf op)), .int .i64 (levelOf op), f1, f2]) := by
  subst hs hl; exact ⟨_, _, rfl⟩
theorem rowOf_any (op : Int) (w : World) :
    Calls Tryz.prog 128 #[.int .i64 op] w fun e w' => (∃ f1 f2, e = .returned (.agg #[.string (strOf (signOf op)), .int .i64 (levelOf op), f1, f2])) ∧ Below w.heap.size w w' := by
  go_enter Tryz.func128, Tryz.ntmps128
  go_wp2
  all_goals (refine bodyPost_ret (by simp [results, Tryz.results128, go_sem]; rfl) rfl ?_)
  all_goals (refine ⟨row_eq ?_ ?_, by repeat (first | exact Below.refl _ _ | refine Below.alloc ?_ (Nat.le_refl _) _)⟩)
  all_goals (simp only [beq_iff_eq, beq_eq_false_iff_ne, ne_eq] at *; simp [signOf, levelOf, strOf, *])

@[go_sem] theorem field_row0 (a b c d : Value) (w : World) : (Instr.field 157 (.agg #[a, b, c, d]) 0).run Tryz.prog w = .ok a w := by kernel_rfl
@[go_sem] theorem field_row1 (a b c d : Value) (w : World) : (Instr.field 157 (.agg #[a, b, c, d]) 1).run Tryz.prog w = .ok b w := by kernel_rfl

theorem level_any (op : Int) (w : World) :
    Calls Tryz.prog 74 #[.int .i64 op] w fun e w' => e = .returned (.int .i64 (levelOf op)) ∧ Below w.heap.size w w' := by
  go_enter Tryz.func74, Tryz.ntmps74
  go_wp2_with fail
  refine (rowOf_any op _).mono ?_
  rintro e w1 ⟨⟨f1, f2, rfl⟩, hb⟩
  go_wp2_with fail
  go_ret
  exact ⟨rfl, hb⟩

theorem sign_any (op : Int) (w : World) :
    Calls Tryz.prog 71 #[.int .i64 op] w fun e w' => e = .returned (.tuple #[.string (strOf (signOf op)), .bool (!(signOf op).isEmpty)]) ∧ Below w.heap.size w w' := by
  go_enter Tryz.func71, Tryz.ntmps71
  go_wp2_with fail
  refine (rowOf_any op _).mono ?_
  rintro e w1 ⟨⟨f1, f2, rfl⟩, hb⟩
  go_wp2_with fail
  go_ret2
  exact ⟨by simp [strOf], hb⟩
end Go.Proofs.YtcfpfnoldgnloaaGreatDoor

namespace Go.Proofs.YtcfpfnoldgnloaaGreatDoor
open Go.RowKit
set_option maxRecDepth 100000
set_option maxHeartbeats 4000000

theorem psUnary_17 (p tb : Nat) (t : Tk) (r : List Tk) (w : World) (h : Ps w p tb (t :: r)) (y : isP (signOf 17) t = true) :
    Calls Tryz.prog 162 #[.pointer (some ⟨p, 0, none⟩)] w fun e w' => e = .returned (.int .i64 17) ∧ SFr p w w' ∧ Ps w' p tb r := by
  have Y : Hid (∀ w1, Ps w1 p tb (t :: r) → _) := fun w1 h1 => psTake_yes p tb t r (signOf 17) w1 h1 y
  have HP0 := Lib.hid h
  clear h y
  have HF0 := Lib.hid (SFr.refl p w)
  go_enter Tryz.func162, Tryz.ntmps162
  go_wp2_with fail
  refine wp_loop_rounds 1 ?_
  rw [rounds_succ]
  go_wp2_with fail
  refine (sign_any 17 _).mono ?_
  rintro e w1 ⟨rfl, hb⟩
  have HP1 := Lib.hid (HP0.out.old hb)
  have HF1 := Lib.hid (HF0.out.trans (SFr.of_below hb))
  clear hb
  go_wp2_with fail
  refine (Y.out _ HP1.out).mono ?_
  rintro e w2 ⟨rfl, hf, hp⟩
  have HF := Lib.hid (HF1.out.trans hf)
  have HP := Lib.hid hp
  clear hf hp
  go_wp2_with fail
  go_ret
  exact ⟨rfl, HF.out, HP.out⟩
theorem psUnary_18 (p tb : Nat) (t : Tk) (r : List Tk) (w : World) (h : Ps w p tb (t :: r)) (n17 : isP (signOf 17) t = false) (y : isP (signOf 18) t = true) :
    Calls Tryz.prog 162 #[.pointer (some ⟨p, 0, none⟩)] w fun e w' => e = .returned (.int .i64 18) ∧ SFr p w w' ∧ Ps w' p tb r := by
  have N17 : Hid (∀ w1, Ps w1 p tb (t :: r) → _) := fun w1 h1 => psTake_no p tb t r (signOf 17) w1 h1 n17
  have Y : Hid (∀ w1, Ps w1 p tb (t :: r) → _) := fun w1 h1 => psTake_yes p tb t r (signOf 18) w1 h1 y
  have HP0 := Lib.hid h
  clear h n17 y
  have HF0 := Lib.hid (SFr.refl p w)
  go_enter Tryz.func162, Tryz.ntmps162
  go_wp2_with fail
  refine wp_loop_rounds 2 ?_
  rw [rounds_succ]
  go_wp2_with fail
  refine (sign_any 17 _).mono ?_
  rintro e w1 ⟨rfl, hb⟩
  have HP1 := Lib.hid (HP0.out.old hb)
  have HF1 := Lib.hid (HF0.out.trans (SFr.of_below hb))
  clear hb
  go_wp2_with fail
  refine (N17.out _ HP1.out).mono ?_
  rintro e w2 ⟨rfl, hb⟩
  have HP2 := Lib.hid (HP1.out.old hb)
  have HF2 := Lib.hid (HF1.out.trans (SFr.of_below hb))
  clear hb
  go_wp2_with fail
  rw [rounds_succ]
  go_wp2_with fail
  refine (sign_any 18 _).mono ?_
  rintro e w1 ⟨rfl, hb⟩
  have HP3 := Lib.hid (HP2.out.old hb)
  have HF3 := Lib.hid (HF2.out.trans (SFr.of_below hb))
  clear hb
  go_wp2_with fail
  refine (Y.out _ HP3.out).mono ?_
  rintro e w2 ⟨rfl, hf, hp⟩
  have HF := Lib.hid (HF3.out.trans hf)
  have HP := Lib.hid hp
  clear hf hp
  go_wp2_with fail
  go_ret
  exact ⟨rfl, HF.out, HP.out⟩
theorem psUnary_19 (p tb : Nat) (t : Tk) (r : List Tk) (w : World) (h : Ps w p tb (t :: r)) (n17 : isP (signOf 17) t = false) (n18 : isP (signOf 18) t = false) (y : isP (signOf 19) t = true) :
    Calls Tryz.prog 162 #[.pointer (some ⟨p, 0, none⟩)] w fun e w' => e = .returned (.int .i64 19) ∧ SFr p w w' ∧ Ps w' p tb r := by
  have N17 : Hid (∀ w1, Ps w1 p tb (t :: r) → _) := fun w1 h1 => psTake_no p tb t r (signOf 17) w1 h1 n17
  have N18 : Hid (∀ w1, Ps w1 p tb (t :: r) → _) := fun w1 h1 => psTake_no p tb t r (signOf 18) w1 h1 n18
  have Y : Hid (∀ w1, Ps w1 p tb (t :: r) → _) := fun w1 h1 => psTake_yes p tb t r (signOf 19) w1 h1 y
  have HP0 := Lib.hid h
  clear h n17 n18 y
  have HF0 := Lib.hid (SFr.refl p w)
  go_enter Tryz.func162, Tryz.ntmps162
  go_wp2_with fail
  refine wp_loop_rounds 3 ?_
  rw [rounds_succ]
  go_wp2_with fail
  refine (sign_any 17 _).mono ?_
  rintro e w1 ⟨rfl, hb⟩
  have HP1 := Lib.hid (HP0.out.old hb)
  have HF1 := Lib.hid (HF0.out.trans (SFr.of_below hb))
  clear hb
  go_wp2_with fail
  refine (N17.out _ HP1.out).mono ?_
  rintro e w2 ⟨rfl, hb⟩
  have HP2 := Lib.hid (HP1.out.old hb)
  have HF2 := Lib.hid (HF1.out.trans (SFr.of_below hb))
  clear hb
  go_wp2_with fail
  rw [rounds_succ]
  go_wp2_with fail
  refine (sign_any 18 _).mono ?_
  rintro e w1 ⟨rfl, hb⟩
  have HP3 := Lib.hid (HP2.out.old hb)
  have HF3 := Lib.hid (HF2.out.trans (SFr.of_below hb))
  clear hb
  go_wp2_with fail
  refine (N18.out _ HP3.out).mono ?_
  rintro e w2 ⟨rfl, hb⟩
  have HP4 := Lib.hid (HP3.out.old hb)
  have HF4 := Lib.hid (HF3.out.trans (SFr.of_below hb))
  clear hb
  go_wp2_with fail
  rw [rounds_succ]
  go_wp2_with fail
  refine (sign_any 19 _).mono ?_
  rintro e w1 ⟨rfl, hb⟩
  have HP5 := Lib.hid (HP4.out.old hb)
  have HF5 := Lib.hid (HF4.out.trans (SFr.of_below hb))
  clear hb
  go_wp2_with fail
  refine (Y.out _ HP5.out).mono ?_
  rintro e w2 ⟨rfl, hf, hp⟩
  have HF := Lib.hid (HF5.out.trans hf)
  have HP := Lib.hid hp
  clear hf hp
  go_wp2_with fail
  go_ret
  exact ⟨rfl, HF.out, HP.out⟩
theorem psUnary_20 (p tb : Nat) (t : Tk) (r : List Tk) (w : World) (h : Ps w p tb (t :: r)) (n17 : isP (signOf 17) t = false) (n18 : isP (signOf 18) t = false) (n19 : isP (signOf 19) t = false) :
    Calls Tryz.prog 162 #[.pointer (some ⟨p, 0, none⟩)] w fun e w' => e = .returned (.int .i64 0) ∧ SFr p w w' ∧ Ps w' p tb (t :: r) := by
  have N17 : Hid (∀ w1, Ps w1 p tb (t :: r) → _) := fun w1 h1 => psTake_no p tb t r (signOf 17) w1 h1 n17
  have N18 : Hid (∀ w1, Ps w1 p tb (t :: r) → _) := fun w1 h1 => psTake_no p tb t r (signOf 18) w1 h1 n18
  have N19 : Hid (∀ w1, Ps w1 p tb (t :: r) → _) := fun w1 h1 => psTake_no p tb t r (signOf 19) w1 h1 n19
  have HP0 := Lib.hid h
  clear h n17 n18 n19
  have HF0 := Lib.hid (SFr.refl p w)
  go_enter Tryz.func162, Tryz.ntmps162
  go_wp2_with fail
  refine wp_loop_rounds 4 ?_
  rw [rounds_succ]
  go_wp2_with fail
  refine (sign_any 17 _).mono ?_
  rintro e w1 ⟨rfl, hb⟩
  have HP1 := Lib.hid (HP0.out.old hb)
  have HF1 := Lib.hid (HF0.out.trans (SFr.of_below hb))
  clear hb
  go_wp2_with fail
  refine (N17.out _ HP1.out).mono ?_
  rintro e w2 ⟨rfl, hb⟩
  have HP2 := Lib.hid (HP1.out.old hb)
  have HF2 := Lib.hid (HF1.out.trans (SFr.of_below hb))
  clear hb
  go_wp2_with fail
  rw [rounds_succ]
  go_wp2_with fail
  refine (sign_any 18 _).mono ?_
  rintro e w1 ⟨rfl, hb⟩
  have HP3 := Lib.hid (HP2.out.old hb)
  have HF3 := Lib.hid (HF2.out.trans (SFr.of_below hb))
  clear hb
  go_wp2_with fail
  refine (N18.out _ HP3.out).mono ?_
  rintro e w2 ⟨rfl, hb⟩
  have HP4 := Lib.hid (HP3.out.old hb)
  have HF4 := Lib.hid (HF3.out.trans (SFr.of_below hb))
  clear hb
  go_wp2_with fail
  rw [rounds_succ]
  go_wp2_with fail
  refine (sign_any 19 _).mono ?_
  rintro e w1 ⟨rfl, hb⟩
  have HP5 := Lib.hid (HP4.out.old hb)
  have HF5 := Lib.hid (HF4.out.trans (SFr.of_below hb))
  clear hb
  go_wp2_with fail
  refine (N19.out _ HP5.out).mono ?_
  rintro e w2 ⟨rfl, hb⟩
  have HP6 := Lib.hid (HP5.out.old hb)
  have HF6 := Lib.hid (HF5.out.trans (SFr.of_below hb))
  clear hb
  go_wp2_with fail
  rw [rounds_succ]
  go_wp2_with fail
  go_ret
  exact ⟨rfl, HF6.out, HP6.out⟩
theorem bin_next (lv : Int) (t : Tk) (r : List Tk) : binaryP lv (t :: r) = ((((List.range 16).map fun i : Nat => (i : Int) + 1).find? fun op => isP (signOf op) t && decide (lv ≤ levelOf op))).getD 0 := rfl
theorem find_at (f : Int → Bool) (k : Nat) (hk : k < 16) (hno : ∀ j, j < k → f ((j : Int) + 1) = false) (hy : f ((k : Int) + 1) = true) : (((List.range 16).map fun i : Nat => (i : Int) + 1).find? f).getD 0 = (k : Int) + 1 := by
  rcases hf : ((List.range 16).map fun i : Nat => (i : Int) + 1).find? f with _ | op
  · rw [List.find?_eq_none] at hf
    have := hf ((k : Int) + 1) (List.mem_map.2 ⟨k, List.mem_range.2 hk, rfl⟩)
    rw [hy] at this; simp at this
  · rw [List.find?_eq_some_iff_append] at hf
    obtain ⟨ho, xs, ys, hl, hn⟩ := hf
    obtain ⟨j, hj, rfl⟩ := List.mem_map.1 (show op ∈ (List.range 16).map fun i : Nat => (i : Int) + 1 by rw [hl]; simp)
    have hj := List.mem_range.1 hj
    rcases Nat.lt_trichotomy j k with h | h | h
    · rw [hno j h] at ho; cases ho
    · rw [h]; rfl
    · exfalso
      have e1 : xs.length = j := by
        have g1 : ((List.range 16).map fun i : Nat => (i : Int) + 1)[xs.length]? = some ((j : Int) + 1) := by rw [hl]; simp
        rw [List.getElem?_map] at g1
        have hlt : xs.length < 16 := by
          have := congrArg List.length hl
          simp at this; omega
        rw [List.getElem?_range hlt] at g1
        simp at g1; omega
      have hm : ((k : Int) + 1) ∈ xs := by
        have g2 : ((List.range 16).map fun i : Nat => (i : Int) + 1)[k]? = some ((k : Int) + 1) := by rw [List.getElem?_map, List.getElem?_range hk]; rfl
        rw [hl, List.getElem?_append_left (by omega)] at g2
        exact List.mem_of_getElem? g2
      have := hn _ hm
      rw [hy] at this; cases this
theorem yfind_none (f : Int → Bool) (hno : ∀ j : Nat, j < 16 → f ((j : Int) + 1) = false) : (((List.range 16).map fun i : Nat => (i : Int) + 1).find? f).getD 0 = 0 := by
  have : ((List.range 16).map fun i : Nat => (i : Int) + 1).find? f = none := by
    rw [List.find?_eq_none]
    intro x hx
    obtain ⟨j, hj, rfl⟩ := List.mem_map.1 hx
    rw [hno j (List.mem_range.1 hj)]; decide
  rw [this]; rfl
theorem psBinary_any (p tb : Nat) (l : List Tk) (lv : Int) (w : World) (h : Ps w p tb l) :
    Calls Tryz.prog 119 #[.pointer (some ⟨p, 0, none⟩), .int .i64 lv] w fun e w' => e = .returned (.int .i64 (binaryP lv l)) ∧ Below w.heap.size w w' := by
  obtain ⟨t, r, rfl⟩ := h.ends.ne
  rw [bin_next]
  obtain ⟨f, hf⟩ : ∃ f : Int → Bool, f = fun op => isP (signOf op) t && decide (lv ≤ levelOf op) := ⟨_, rfl⟩
  rw [← hf]
  have HN := Lib.hid (yfind_none f)
  have HA := Lib.hid (find_at f)
  have HPS := Lib.hid h
  have HFE : Hid (∀ op, f op = (isP (signOf op) t && decide (lv ≤ levelOf op))) := fun op => by rw [hf]
  clear h hf
  generalize (((List.range 16).map fun i : Nat => (i : Int) + 1).find? f).getD 0 = R at *
  go_enter Tryz.func119, Tryz.ntmps119
  go_wp2_with fail
  go_loopw [5] (fun s5 wr => ∃ k : Nat, k ≤ 16 ∧ s5 = .int .i64 ((k : Int) + 1) ∧ (∀ j : Nat, j < k → f ((j : Int) + 1) = false) ∧ Below w.heap.size w wr) (fun s5 _ => 17 - (intOf s5).toNat)
  case atStart => exact ⟨0, by omega, rfl, fun j hj => by omega, Below.refl _ _⟩
  case round =>
    obtain ⟨k, hk, rfl, hno, hb⟩ := hrel
    have HNO := Lib.hid hno
    have HB := Lib.hid hb
    clear hno hb
    by_cases hlt : k < 16
    · have hle : (k : Int) + 1 ≤ 16 := by omega
      have hge : (0 : Int) ≤ (k : Int) + 1 := by omega
      have hw1 : IntKind.i64.wrap ((k : Int) + 1 + 1) = (k : Int) + 1 + 1 := IntWalk.i64_in _ (by omega)
      have HI : Hid (∀ w1, Ps w1 p tb (t :: r) → _) := fun w1 h1 => psIs_any p tb t r (signOf ((k : Int) + 1)) w1 h1
      go_wp2_with fail
      refine (sign_any ((k : Int) + 1) _).mono ?_
      rintro e w1 ⟨rfl, hb⟩
      have HB1 := Lib.hid (HB.out.trans (hb.mono HB.out.size))
      clear hb
      go_wp2_with fail
      refine (HI.out _ (HPS.out.old HB1.out)).mono ?_
      rintro e w2 ⟨rfl, hb⟩
      have HB2 := Lib.hid (HB1.out.trans (hb.mono HB1.out.size))
      clear hb HI
      cases hi : isP (signOf ((k : Int) + 1)) t with
      | false =>
        have HF : Hid (f ((k : Int) + 1) = false) := by show _ = _; rw [HFE.out, hi]; rfl
        clear hi
        go_wp2_with fail
        go_roundw
        case rel => exact ⟨k + 1, by omega, by rw [Int.natCast_succ], fun j hj => by
          rcases Nat.lt_succ_iff_lt_or_eq.1 hj with h' | rfl
          · exact HNO.out j h'
          · exact HF.out, HB2.out⟩
        case measure => simp only [intOf]; omega
      | true =>
        by_cases hl : lv ≤ levelOf ((k : Int) + 1)
        · have HF : Hid (f ((k : Int) + 1) = true) := by show _ = _; rw [HFE.out, hi, decide_eq_true hl]; rfl
          clear hi
          go_wp2_with fail
          refine (level_any ((k : Int) + 1) _).mono ?_
          rintro e w3 ⟨rfl, hb⟩
          have HB3 := Lib.hid (HB2.out.trans (hb.mono HB2.out.size))
          clear hb
          go_wp2_with fail
          go_ret
          exact ⟨ret_int (HA.out k hlt HNO.out HF.out).symm, HB3.out⟩
        · have HF : Hid (f ((k : Int) + 1) = false) := by show _ = _; rw [HFE.out, hi, decide_eq_false hl]; rfl
          have hl' : levelOf ((k : Int) + 1) < lv := by omega
          clear hi
          go_wp2_with fail
          refine (level_any ((k : Int) + 1) _).mono ?_
          rintro e w3 ⟨rfl, hb⟩
          have HB3 := Lib.hid (HB2.out.trans (hb.mono HB2.out.size))
          clear hb
          go_wp2_with fail
          go_roundw
          case rel => exact ⟨k + 1, by omega, by rw [Int.natCast_succ], fun j hj => by
            rcases Nat.lt_succ_iff_lt_or_eq.1 hj with h' | rfl
            · exact HNO.out j h'
            · exact HF.out, HB3.out⟩
          case measure => simp only [intOf]; omega
    · obtain rfl : k = 16 := by omega
      clear hlt
      go_wp2_with fail
      go_ret
      exact ⟨ret_int (HN.out HNO.out).symm, HB.out⟩
end Go.Proofs.YtcfpfnoldgnloaaGreatDoor
