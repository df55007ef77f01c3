/-
  A parser in memory: the tokens that are left; what its methods leave. No condition.
  is, take, want, kind, name: the next token. Conditions: the parser lies in memory.
  want of two; kind, name. Conditions: the parser lies in memory.
-/
import Derived.Test.YtcfpfnoldgnloaaGreatDoorSfr
import Derived.Test.YtcfpfnoldgnloaaGreatDoorParA
import Derived.Deep.Cut
import Derived.IntWalk
set_option linter.unusedVariables false
set_option linter.unusedSimpArgs false
namespace Go.Proofs.YtcfpfnoldgnloaaGreatDoor
open Go.RowKit
set_option maxRecDepth 100000
set_option maxHeartbeats 4000000

/-- Tokens, one behind the other, from a place on. -/
def TokRow (w : World) (tb : Nat) : Nat → List Tk → Prop
  | _, [] => True
  | o, t :: l => w.cell? ⟨tb, o, none⟩ = some (.int .i64 t.kind) ∧ w.cell? ⟨tb, o + 1, none⟩ = some (.string (strOf t.text)) ∧ w.cell? ⟨tb, o + 2, none⟩ = some (.int .i64 t.num) ∧ w.cell? ⟨tb, o + 3, none⟩ = some (.int .i64 t.line) ∧ TokRow w tb (o + 4) l
theorem TokRow.keep {w w' : World} {tb : Nat} (hk : Keeps (· = tb) w w') : ∀ {l : List Tk} {o : Nat}, TokRow w tb o l → TokRow w' tb o l
  | [], _, _ => trivial
  | t :: l, o, h => ⟨hk _ _ _ rfl h.1, hk _ _ _ rfl h.2.1, hk _ _ _ rfl h.2.2.1, hk _ _ _ rfl h.2.2.2.1, TokRow.keep hk h.2.2.2.2⟩
/-- The last one is the end, and no other. -/
def EndsTk : List Tk → Prop
  | [] => False
  | [t] => t.kind = 5
  | _ :: u :: r => EndsTk (u :: r)
theorem EndsTk.tail {t : Tk} {r : List Tk} (h : EndsTk (t :: r)) (hk : t.kind ≠ 5) : EndsTk r := by
  cases r with
  | nil => exact absurd h hk
  | cons u r => exact h
theorem EndsTk.ne {l : List Tk} (h : EndsTk l) : ∃ t r, l = t :: r := by
  cases l with
  | nil => exact h.elim
  | cons t r => exact ⟨t, r, rfl⟩
theorem isP_kind {s : Bs} {t : Tk} (h : isP s t = true) : t.kind ≠ 5 := by
  intro e
  unfold isP at h
  rw [e] at h
  simp at h
structure PsAt (w : World) (p tb o cap : Nat) (l : List Tk) : Prop where
  own : OwnAt w p [.slice (some ⟨tb, o, none⟩) l.length cap] 113
  row : TokRow w tb o l
  hcap : l.length ≤ cap
  fit : l.length ≤ 1000000
  lt : tb < p
  ends : EndsTk l
  nums : ∀ t, t ∈ l → I64 t.num
def Ps (w : World) (p tb : Nat) (l : List Tk) : Prop := ∃ o cap, PsAt w p tb o cap l
theorem PsAt.old {w w' : World} {p tb o cap : Nat} {l : List Tk} (h : PsAt w p tb o cap l) (hb : Below w.heap.size w w') : PsAt w' p tb o cap l :=
  ⟨h.own.old hb, h.row.keep (keeps_below hb), h.hcap, h.fit, h.lt, h.ends, h.nums⟩
theorem Ps.old {w w' : World} {p tb : Nat} {l : List Tk} (h : Ps w p tb l) (hb : Below w.heap.size w w') : Ps w' p tb l := by
  obtain ⟨o, cap, h⟩ := h; exact ⟨o, cap, h.old hb⟩
theorem Ps.alloc {w : World} {p tb : Nat} {l : List Tk} (h : Ps w p tb l) (x : Obj) : Ps (w.alloc x) p tb l := h.old ((Below.refl _ _).alloc (Nat.le_refl _) _)
theorem PsAt.other {w : World} {p tb o cap : Nat} {l : List Tk} (h : PsAt w p tb o cap l) {k : Nat} (hk : p < k) (i : Nat) (v : Value) : PsAt (w.setCell ⟨k, i, none⟩ v) p tb o cap l :=
  ⟨h.own.other (Nat.ne_of_lt hk) i v, h.row.keep (keeps_set w (by have := h.lt; show ¬ k = tb; omega) i v), h.hcap, h.fit, h.lt, h.ends, h.nums⟩
theorem Ps.other {w : World} {p tb : Nat} {l : List Tk} (h : Ps w p tb l) {k : Nat} (hk : p < k) (i : Nat) (v : Value) : Ps (w.setCell ⟨k, i, none⟩ v) p tb l := by
  obtain ⟨o, cap, h⟩ := h; exact ⟨o, cap, h.other hk i v⟩
theorem Ps.lt {w : World} {p tb : Nat} {l : List Tk} (h : Ps w p tb l) : p < w.heap.size := by
  obtain ⟨o, cap, h⟩ := h; exact h.own.lt
theorem Ps.ends {w : World} {p tb : Nat} {l : List Tk} (h : Ps w p tb l) : EndsTk l := by
  obtain ⟨o, cap, h⟩ := h; exact h.ends
theorem Ps.nums {w : World} {p tb : Nat} {l : List Tk} (h : Ps w p tb l) : ∀ t, t ∈ l → I64 t.num := by
  obtain ⟨o, cap, h⟩ := h; exact h.nums
/-- The first token is taken. -/
theorem PsAt.take {w : World} {p tb o cap : Nat} {t : Tk} {r : List Tk} (h : PsAt w p tb o cap (t :: r)) (hk : t.kind ≠ 5) :
    Ps (w.setCell ⟨p, 0, none⟩ (.slice (some ⟨tb, o + 4, none⟩) r.length (cap - 1))) p tb r ∧ SFr p w (w.setCell ⟨p, 0, none⟩ (.slice (some ⟨tb, o + 4, none⟩) r.length (cap - 1))) := by
  have hc := h.hcap
  have hf := h.fit
  have hl := h.lt
  rw [List.length_cons] at hc hf
  refine ⟨⟨o + 4, cap - 1, ?_, ?_, by omega, by omega, hl, h.ends.tail hk, fun x hx => h.nums x (List.mem_cons_of_mem _ hx)⟩, ⟨rfl, rfl, rfl, by simp [World.setCell], fun k _ hk => Below.heap_setCell _ _ _ _ hk⟩⟩
  · exact h.own.set 0 _
  · exact TokRow.keep (keeps_set w (by show ¬ p = tb; omega) 0 _) h.row.2.2.2.2
def tkV (t : Tk) : Value := .agg #[.int .i64 t.kind, .string (strOf t.text), .int .i64 t.num, .int .i64 t.line]
/-- What a method leaves: the tokens that are left, and what it gives; or a panic with the line. -/
def lineV (n : Int) : Ending := .panicked [{ v := .iface 110 (.agg #[.int .i64 n]), recovered := false }]
def PEnd {α : Type} (H : α → Value → World → Prop) (w : World) (p tb : Nat) (r : PR α) (e : Ending) (w' : World) : Prop :=
  SFr p w w' ∧ match r with
    | .ok (x, l) => ∃ v, e = .returned v ∧ Ps w' p tb l ∧ H x v w'
    | .error n => e = lineV n
theorem set4s (w : World) (b : Nat) (v0 v1 v2 v3 : Value) {B : Nat} (w0 : World) (h : Below B w0 w) (hb : B ≤ b) : Below B w0 ((((w.setCell ⟨b, 0, none⟩ v0).setCell ⟨b, 1, none⟩ v1).setCell ⟨b, 2, none⟩ v2).setCell ⟨b, 3, none⟩ v3) :=
  (((h.setCell (p := ⟨b, 0, none⟩) hb v0).setCell (p := ⟨b, 1, none⟩) hb v1).setCell (p := ⟨b, 2, none⟩) hb v2).setCell (p := ⟨b, 3, none⟩) hb v3

theorem psNext_any (p tb : Nat) (t : Tk) (r : List Tk) (w : World) (h : Ps w p tb (t :: r)) :
    Calls Tryz.prog 58 #[.pointer (some ⟨p, 0, none⟩)] w fun e w' => e = .returned (tkV t) ∧ Below w.heap.size w w' := by
  obtain ⟨o, cap, h⟩ := h
  have hb1 : Below w.heap.size w (w.alloc (.cells #[.int .i64 0, .string ⟨#[]⟩, .int .i64 0, .int .i64 0] 50)) := (Below.refl _ _).alloc (Nat.le_refl _) _
  have h1 := h.old hb1
  have c0 := h1.own.at 0 _ rfl
  obtain ⟨r0, r1, r2, r3, _⟩ := h1.row
  have hpl := h.own.lt
  have hcap := h.hcap
  have htl := h.lt
  have hn0 : (0 : Int) < ((t :: r).length : Int) := by rw [List.length_cons]; omega
  have hn1 : 0 < (t :: r).length := by simp
  clear h h1 hb1
  generalize (t :: r).length = n at *
  go_enter Tryz.func58, Tryz.ntmps58
  go_wp2_with fail
  exact bodyPost_ret (v := tkV t) (by simp [tkV, results, Tryz.results58, go_sem]) rfl ⟨rfl, (Below.refl _ _).alloc (Nat.le_refl _) _⟩
@[go_sem] theorem field_tk0 (a b c d : Value) (w : World) : (Instr.field 50 (.agg #[a, b, c, d]) 0).run Tryz.prog w = .ok a w := by kernel_rfl
@[go_sem] theorem field_tk1 (a b c d : Value) (w : World) : (Instr.field 50 (.agg #[a, b, c, d]) 1).run Tryz.prog w = .ok b w := by kernel_rfl
@[go_sem] theorem field_tk3 (a b c d : Value) (w : World) : (Instr.field 50 (.agg #[a, b, c, d]) 3).run Tryz.prog w = .ok d w := by kernel_rfl
theorem psFail_any (p tb : Nat) (t : Tk) (r : List Tk) (w : World) (h : Ps w p tb (t :: r)) :
    Calls Tryz.prog 59 #[.pointer (some ⟨p, 0, none⟩)] w fun e w' => e = lineV t.line ∧ Below w.heap.size w w' := by
  have HN := Lib.hid (psNext_any p tb t r w h)
  clear h
  go_enter Tryz.func59, Tryz.ntmps59
  go_wp2_with fail
  refine HN.out.mono ?_
  rintro e w1 ⟨rfl, hb⟩
  unfold tkV
  have HB := Lib.hid hb
  clear hb
  go_wp2_with fail
  exact ⟨rfl, rfl, HB.out⟩
end Go.Proofs.YtcfpfnoldgnloaaGreatDoor

namespace Go.Proofs.YtcfpfnoldgnloaaGreatDoor
open Go.RowKit
set_option maxRecDepth 100000
set_option maxHeartbeats 4000000

theorem psIs_any (p tb : Nat) (t : Tk) (r : List Tk) (s : Bs) (w : World) (h : Ps w p tb (t :: r)) :
    Calls Tryz.prog 124 #[.pointer (some ⟨p, 0, none⟩), .string (strOf s)] w fun e w' => e = .returned (.bool (isP s t)) ∧ Below w.heap.size w w' := by
  have HN := Lib.hid (psNext_any p tb t r w h)
  clear h
  have hbi : isP s t = ((t.kind == 2 || t.kind == 4) && t.text == s) := rfl
  rw [hbi]
  cases e2 : (t.kind == 2)
  · cases e4 : (t.kind == 4)
    · clear hbi
      go_enter Tryz.func124, Tryz.ntmps124
      go_wp2_with fail
      refine HN.out.mono ?_
      rintro e w1 ⟨rfl, hb⟩
      unfold tkV
      have HB := Lib.hid hb
      clear hb
      go_wp2_with fail
      go_ret
      exact ⟨rfl, HB.out.alloc HB.out.size _⟩
    · have n2 : t.kind ≠ 2 := by simpa using e2
      clear hbi
      go_enter Tryz.func124, Tryz.ntmps124
      go_wp2_with fail
      refine HN.out.mono ?_
      rintro e w1 ⟨rfl, hb⟩
      unfold tkV
      have HB := Lib.hid hb
      clear hb
      go_wp2_with fail
      go_ret
      exact ⟨by simp, HB.out.alloc HB.out.size _⟩
  · clear hbi
    go_enter Tryz.func124, Tryz.ntmps124
    go_wp2_with fail
    refine HN.out.mono ?_
    rintro e w1 ⟨rfl, hb⟩
    unfold tkV
    have HB := Lib.hid hb
    clear hb
    go_wp2_with fail
    go_ret
    exact ⟨by simp, HB.out.alloc HB.out.size _⟩
theorem psTake_no (p tb : Nat) (t : Tk) (r : List Tk) (s : Bs) (w : World) (h : Ps w p tb (t :: r)) (hs : isP s t = false) :
    Calls Tryz.prog 66 #[.pointer (some ⟨p, 0, none⟩), .string (strOf s)] w fun e w' => e = .returned (.bool false) ∧ Below w.heap.size w w' := by
  have HN := Lib.hid (psIs_any p tb t r s w h)
  rw [hs] at HN
  clear h hs
  go_enter Tryz.func66, Tryz.ntmps66
  go_wp2_with fail
  refine HN.out.mono ?_
  rintro e w1 ⟨rfl, hb⟩
  have HB := Lib.hid hb
  clear hb
  go_wp2_with fail
  go_ret
  exact ⟨rfl, HB.out⟩
theorem psTake_yes (p tb : Nat) (t : Tk) (r : List Tk) (s : Bs) (w : World) (h : Ps w p tb (t :: r)) (hs : isP s t = true) :
    Calls Tryz.prog 66 #[.pointer (some ⟨p, 0, none⟩), .string (strOf s)] w fun e w' => e = .returned (.bool true) ∧ SFr p w w' ∧ Ps w' p tb r := by
  have HN := Lib.hid (psIs_any p tb t r s w h)
  rw [hs] at HN
  have HK := Lib.hid (isP_kind hs)
  have HP := Lib.hid h
  clear h hs
  go_enter Tryz.func66, Tryz.ntmps66
  go_wp2_with fail
  refine HN.out.mono ?_
  rintro e w1 ⟨rfl, hb⟩
  have HB := Lib.hid hb
  obtain ⟨o, cap, h1⟩ := HP.out.old hb
  have HT := Lib.hid (h1.take HK.out)
  have c0 := h1.own.at 0 _ rfl
  have z0 := h1.own.fz 0
  have hpl := h1.own.lt
  have hcap := h1.hcap
  have hfit := h1.fit
  obtain ⟨n, hn⟩ : ∃ n, r.length = n := ⟨_, rfl⟩
  rw [List.length_cons, hn] at c0 hcap
  rw [hn] at HT
  have hr0 : 0 < n := by
    obtain ⟨u, q, rfl⟩ := (h1.ends.tail HK.out).ne
    rw [← hn]; simp
  have i1 : (1 : Int) ≤ (n : Int) + 1 := by omega
  have i2 : ((n : Int) + 1) ≤ (cap : Int) := by omega
  have i3 : ¬ (cap : Int) - 1 = 0 := by omega
  have i4 : ¬ cap - 1 = 0 := by omega
  clear hb h1
  go_wp2_with fail
  go_ret
  exact ⟨rfl, (SFr.of_below HB.out).trans HT.out.2, HT.out.1⟩
/-- What a method leaves that gives nothing. -/
def WEnd (w : World) (p tb : Nat) (r : Except Int (List Tk)) (e : Ending) (w' : World) : Prop :=
  SFr p w w' ∧ match r with
    | .ok l => e = .returned (.tuple #[]) ∧ Ps w' p tb l
    | .error n => e = lineV n
theorem psWant_one (p tb : Nat) (l : List Tk) (s : Bs) (w : World) (h : Ps w p tb l) (b c : Nat) (hc : w.cell? ⟨b, 0, none⟩ = some (.string (strOf s))) :
    Calls Tryz.prog 64 #[.pointer (some ⟨p, 0, none⟩), .slice (some ⟨b, 0, none⟩) 1 c] w (WEnd w p tb (ywantP s l)) := by
  obtain ⟨t, r, rfl⟩ := h.ends.ne
  cases hs : isP s t with
  | true =>
    rw [want_yes hs]
    have HT := Lib.hid (psTake_yes p tb t r s w h hs)
    clear h hs
    go_enter Tryz.func64, Tryz.ntmps64
    go_wp2_with fail
    refine wp_loop_rounds 2 ?_
    rw [rounds_succ]
    go_wp2_with fail
    refine HT.out.mono ?_
    rintro e w1 ⟨rfl, hf, hp⟩
    have HF := Lib.hid hf
    have HP := Lib.hid hp
    clear hf hp
    go_wp2_with fail
    rw [rounds_succ]
    go_wp2_with fail
    go_end0
    exact ⟨HF.out, rfl, HP.out⟩
  | false =>
    have e : ywantP s (t :: r) = .error t.line := by unfold ywantP; rw [take_no hs]; rfl
    rw [e]
    have HT := Lib.hid (psTake_no p tb t r s w h hs)
    have HP := Lib.hid h
    clear h hs e
    go_enter Tryz.func64, Tryz.ntmps64
    go_wp2_with fail
    refine wp_loop_rounds 1 ?_
    rw [rounds_succ]
    go_wp2_with fail
    refine HT.out.mono ?_
    rintro e w1 ⟨rfl, hb⟩
    have HB := Lib.hid hb
    have HL := Lib.hid (psFail_any p tb t r w1 (HP.out.old hb))
    clear hb
    go_wp2_with fail
    refine HL.out.mono ?_
    rintro e w2 ⟨rfl, hb⟩
    have HB2 := Lib.hid (HB.out.trans (hb.mono HB.out.size))
    clear hb
    unfold lineV
    go_wp2_with fail
    exact ⟨rfl, SFr.of_below HB2.out, rfl⟩
end Go.Proofs.YtcfpfnoldgnloaaGreatDoor

namespace Go.Proofs.YtcfpfnoldgnloaaGreatDoor
open Go.RowKit
set_option maxRecDepth 100000
set_option maxHeartbeats 4000000

/-- Two texts wanted, one behind the other. -/
def wantP2 (s u : Bs) (l : List Tk) : Except Int (List Tk) := match ywantP s l with
  | .ok r => ywantP u r
  | .error e => .error e
theorem want_no {s : Bs} {t : Tk} {r : List Tk} (h : isP s t = false) : ywantP s (t :: r) = .error t.line := by
  unfold ywantP; rw [take_no h]; rfl
theorem psWant_two (p tb : Nat) (l : List Tk) (s u : Bs) (w : World) (h : Ps w p tb l) (b c : Nat) (hc : w.cell? ⟨b, 0, none⟩ = some (.string (strOf s))) (hd : w.cell? ⟨b, 1, none⟩ = some (.string (strOf u))) (hbp : b ≠ p) :
    Calls Tryz.prog 64 #[.pointer (some ⟨p, 0, none⟩), .slice (some ⟨b, 0, none⟩) 2 c] w (WEnd w p tb (wantP2 s u l)) := by
  obtain ⟨t, r, rfl⟩ := h.ends.ne
  cases hs : isP s t with
  | true =>
    have hr : EndsTk r := h.ends.tail (isP_kind hs)
    obtain ⟨t2, q, rfl⟩ := hr.ne
    have HT := Lib.hid (psTake_yes p tb t (t2 :: q) s w h hs)
    have e1 : wantP2 s u (t :: t2 :: q) = ywantP u (t2 :: q) := by unfold wantP2; rw [want_yes hs]
    rw [e1]
    cases hu : isP u t2 with
    | true =>
      rw [want_yes hu]
      have HU : Hid (∀ w1, Ps w1 p tb (t2 :: q) → _) := fun w1 h1 => psTake_yes p tb t2 q u w1 h1 hu
      clear h hs hr e1 hu
      go_enter Tryz.func64, Tryz.ntmps64
      go_wp2_with fail
      refine wp_loop_rounds 3 ?_
      rw [rounds_succ]
      go_wp2_with fail
      refine HT.out.mono ?_
      rintro e w1 ⟨rfl, hf, hp⟩
      have HF := Lib.hid hf
      have HP := Lib.hid hp
      have d1 := hf.cell hbp hd
      clear hf hp
      go_wp2_with fail
      rw [rounds_succ]
      go_wp2_with fail
      refine (HU.out w1 HP.out).mono ?_
      rintro e w2 ⟨rfl, hf, hp⟩
      have HF2 := Lib.hid (HF.out.trans hf)
      have HP2 := Lib.hid hp
      clear hf hp
      go_wp2_with fail
      rw [rounds_succ]
      go_wp2_with fail
      go_end0
      exact ⟨HF2.out, rfl, HP2.out⟩
    | false =>
      rw [want_no hu]
      have HU : Hid (∀ w1, Ps w1 p tb (t2 :: q) → _) := fun w1 h1 => psTake_no p tb t2 q u w1 h1 hu
      have HL : Hid (∀ w1, Ps w1 p tb (t2 :: q) → _) := fun w1 h1 => psFail_any p tb t2 q w1 h1
      clear h hs hr e1 hu
      go_enter Tryz.func64, Tryz.ntmps64
      go_wp2_with fail
      refine wp_loop_rounds 2 ?_
      rw [rounds_succ]
      go_wp2_with fail
      refine HT.out.mono ?_
      rintro e w1 ⟨rfl, hf, hp⟩
      have HF := Lib.hid hf
      have HP := Lib.hid hp
      have d1 := hf.cell hbp hd
      clear hf hp
      go_wp2_with fail
      rw [rounds_succ]
      go_wp2_with fail
      refine (HU.out w1 HP.out).mono ?_
      rintro e w2 ⟨rfl, hb⟩
      have HF2 := Lib.hid (HF.out.trans (SFr.of_below hb))
      have HP2 := Lib.hid (HP.out.old hb)
      clear hb
      go_wp2_with fail
      refine (HL.out w2 HP2.out).mono ?_
      rintro e w3 ⟨rfl, hb⟩
      have HF3 := Lib.hid (HF2.out.trans (SFr.of_below hb))
      clear hb
      unfold lineV
      go_wp2_with fail
      exact ⟨rfl, HF3.out, rfl⟩
  | false =>
    have e1 : wantP2 s u (t :: r) = .error t.line := by unfold wantP2; rw [want_no hs]
    rw [e1]
    have HT := Lib.hid (psTake_no p tb t r s w h hs)
    have HL : Hid (∀ w1, Ps w1 p tb (t :: r) → _) := fun w1 h1 => psFail_any p tb t r w1 h1
    have HP := Lib.hid h
    clear h hs e1
    go_enter Tryz.func64, Tryz.ntmps64
    go_wp2_with fail
    refine wp_loop_rounds 1 ?_
    rw [rounds_succ]
    go_wp2_with fail
    refine HT.out.mono ?_
    rintro e w1 ⟨rfl, hb⟩
    have HF := Lib.hid (SFr.of_below (s := p) hb)
    have HP1 := Lib.hid (HP.out.old hb)
    clear hb
    go_wp2_with fail
    refine (HL.out w1 HP1.out).mono ?_
    rintro e w2 ⟨rfl, hb⟩
    have HF2 := Lib.hid (HF.out.trans (SFr.of_below hb))
    clear hb
    unfold lineV
    go_wp2_with fail
    exact ⟨rfl, HF2.out, rfl⟩
def TkH (t : Tk) (v : Value) (w : World) : Prop := v = tkV t
theorem psKind_any (p tb : Nat) (l : List Tk) (k : Int) (hk5 : k ≠ 5) (w : World) (h : Ps w p tb l) :
    Calls Tryz.prog 67 #[.pointer (some ⟨p, 0, none⟩), .int .i64 k] w (PEnd TkH w p tb (kindP k l)) := by
  obtain ⟨t, r, rfl⟩ := h.ends.ne
  by_cases hk : t.kind = k
  · subst hk
    have e1 : kindP t.kind (t :: r) = .ok (t, r) := by show (if t.kind = t.kind then Except.ok (t, r) else Except.error t.line) = _; rw [if_pos rfl]
    rw [e1]
    have hb1 : Below w.heap.size w (w.alloc (.cells #[.int .i64 0, .string ⟨#[]⟩, .int .i64 0, .int .i64 0] 50)) := (Below.refl _ _).alloc (Nat.le_refl _) _
    have HB := Lib.hid hb1
    have HP := Lib.hid (h.old hb1)
    have HN := Lib.hid (psNext_any p tb t r _ (h.old hb1))
    have HR := Lib.hid (OwnAt.new w [.int .i64 0, .string ⟨#[]⟩, .int .i64 0, .int .i64 0] 50)
    have HK := Lib.hid hk5
    have HPW := Lib.hid h.lt
    clear h hb1 e1 hk5
    go_enter Tryz.func67, Tryz.ntmps67
    go_wp2_with fail
    refine HN.out.mono ?_
    rintro e w1 ⟨rfl, hb⟩
    unfold tkV
    have HR1 := Lib.hid (HR.out.old hb)
    have HB1 := Lib.hid (HB.out.trans (hb.mono HB.out.size))
    have HP1 := Lib.hid (HP.out.old hb)
    clear hb
    go_upto_region 2 with (fail)
    obtain ⟨W, hW⟩ : ∃ W, w1.alloc (.cells #[.int .i64 t.kind, .string (strOf t.text), .int .i64 t.num, .int .i64 t.line] 50) = W := ⟨_, rfl⟩
    rw [hW]
    have hba : Below w1.heap.size w1 W := hW ▸ (Below.refl _ _).alloc (Nat.le_refl _) _
    have hps := HP1.out.old hba
    have HBW := Lib.hid (HB1.out.trans (hba.mono HB1.out.size))
    have HRW := Lib.hid (HR1.out.old hba)
    have HNW := Lib.hid (hW ▸ OwnAt.new w1 [.int .i64 t.kind, .string (strOf t.text), .int .i64 t.num, .int .i64 t.line] 50)
    clear hba hW
    have x0 := HNW.out.at 0 _ rfl
    go_upto_region 4 with (fail)
    obtain ⟨o, cap, h1⟩ := hps
    have HT := Lib.hid (h1.take HK.out)
    have c0 := h1.own.at 0 _ rfl
    have z0 := h1.own.fz 0
    have hpl := h1.own.lt
    have hcap := h1.hcap
    have hfit := h1.fit
    obtain ⟨n, hn⟩ : ∃ n, r.length = n := ⟨_, rfl⟩
    rw [List.length_cons, hn] at c0 hcap
    rw [hn] at HT
    have hr0 : 0 < n := by
      obtain ⟨u, q, rfl⟩ := (h1.ends.tail HK.out).ne
      rw [← hn]; simp
    have i1 : (1 : Int) ≤ (n : Int) + 1 := by omega
    have i2 : ((n : Int) + 1) ≤ (cap : Int) := by omega
    have i3 : ¬ (cap : Int) - 1 = 0 := by omega
    have i4 : ¬ cap - 1 = 0 := by omega
    clear h1
    go_upto_region 5 with (fail)
    have hpw := HPW.out
    have hw1 : p < w1.heap.size := HP1.out.lt
    have hpx : p ≠ w.heap.size := by omega
    have hpy : p ≠ w1.heap.size := by omega
    have HNV := Lib.hid (HNW.out.other (Ne.symm hpy) 0 (.slice (some ⟨tb, o + 4, none⟩) n (cap - 1)))
    have HRV := Lib.hid (HRW.out.other (Ne.symm hpx) 0 (.slice (some ⟨tb, o + 4, none⟩) n (cap - 1)))
    have HF := Lib.hid ((SFr.of_below HBW.out).trans HT.out.2)
    have HPV := Lib.hid HT.out.1
    clear HT c0 z0 x0
    generalize W.setCell ⟨p, 0, none⟩ (.slice (some ⟨tb, o + 4, none⟩) n (cap - 1)) = V at *
    have y0 := HNV.out.at 0 _ rfl
    have y1 := HNV.out.at 1 _ rfl
    have y2 := HNV.out.at 2 _ rfl
    have y3 := HNV.out.at 3 _ rfl
    have z0 := HRV.out.at 0 _ rfl
    have z1 := HRV.out.at 1 _ rfl
    have z2 := HRV.out.at 2 _ rfl
    have z3 := HRV.out.at 3 _ rfl
    have f0 := HRV.out.fz 0
    have f1 := HRV.out.fz 1
    have f2 := HRV.out.fz 2
    have f3 := HRV.out.fz 3
    go_wp2_with fail
    have HS := Lib.hid ((((HRV.out.set 0 (.int .i64 t.kind)).set 1 (.string (strOf t.text))).set 2 (.int .i64 t.num)).set 3 (.int .i64 t.line))
    have d0 := HS.out.at 0 _ rfl
    have d1 := HS.out.at 1 _ rfl
    have d2 := HS.out.at 2 _ rfl
    have d3 := HS.out.at 3 _ rfl
    exact bodyPost_ret (v := tkV t) (by simp [tkV, results, Tryz.results67, go_sem, d0, d1, d2, d3]) rfl ⟨(((HF.out.setNew (Nat.le_refl _) _ _).setNew (Nat.le_refl _) _ _).setNew (Nat.le_refl _) _ _).setNew (Nat.le_refl _) _ _, _, rfl, (((HPV.out.other hpw _ _).other hpw _ _).other hpw _ _).other hpw _ _, rfl⟩
  · have e1 : kindP k (t :: r) = .error t.line := by show (if t.kind = k then Except.ok (t, r) else Except.error t.line) = _; rw [if_neg hk]
    rw [e1]
    have hb1 : Below w.heap.size w (w.alloc (.cells #[.int .i64 0, .string ⟨#[]⟩, .int .i64 0, .int .i64 0] 50)) := (Below.refl _ _).alloc (Nat.le_refl _) _
    have HB := Lib.hid hb1
    have HP := Lib.hid (h.old hb1)
    have HN := Lib.hid (psNext_any p tb t r _ (h.old hb1))
    have HL : Hid (∀ w1, Ps w1 p tb (t :: r) → _) := fun w1 h1 => psFail_any p tb t r w1 h1
    have hne : (t.kind != k) = true := by simp [hk]
    have hne2 : (t.kind == k) = false := by simp [hk]
    clear h hb1 e1
    go_enter Tryz.func67, Tryz.ntmps67
    go_wp2_with fail
    refine HN.out.mono ?_
    rintro e w1 ⟨rfl, hb⟩
    unfold tkV
    have HB1 := Lib.hid (HB.out.trans (hb.mono HB.out.size))
    have HP1 := Lib.hid (HP.out.old hb)
    clear hb
    go_wp2_with fail
    refine (HL.out _ (HP1.out.alloc _)).mono ?_
    rintro e w3 ⟨rfl, hb⟩
    have HB3 := Lib.hid ((HB1.out.alloc HB1.out.size _).trans (hb.mono (HB1.out.alloc HB1.out.size _).size))
    clear hb
    unfold lineV
    go_wp2_with fail
    exact ⟨rfl, SFr.of_below HB3.out, rfl⟩
def NmH (s : Bs) (v : Value) (w : World) : Prop := v = .string (strOf s)
theorem psName_any (p tb : Nat) (l : List Tk) (w : World) (h : Ps w p tb l) :
    Calls Tryz.prog 65 #[.pointer (some ⟨p, 0, none⟩)] w (PEnd NmH w p tb (nameP l)) := by
  have HK := Lib.hid (psKind_any p tb l 1 (by decide) w h)
  clear h
  obtain ⟨R, hR⟩ : ∃ R, nameP l = R := ⟨_, rfl⟩
  rw [hR]
  go_enter Tryz.func65, Tryz.ntmps65
  go_wp2_with fail
  refine HK.out.mono ?_
  intro e w1 he
  cases hk : kindP 1 l with
  | error n =>
    rw [hk] at he
    have e1 : nameP l = .error n := by unfold nameP; rw [hk]
    rw [e1] at hR
    subst hR
    clear e1
    obtain ⟨hf, rfl⟩ := he
    have HF := Lib.hid hf
    clear hf HK
    unfold lineV
    go_wp2_with fail
    exact ⟨rfl, HF.out, rfl⟩
  | ok q =>
    obtain ⟨t, r⟩ := q
    rw [hk] at he
    have e1 : nameP l = .ok (t.text, r) := by unfold nameP; rw [hk]
    rw [e1] at hR
    subst hR
    clear e1
    obtain ⟨hf, v, rfl, hp, hv⟩ := he
    have HF := Lib.hid hf
    have HP := Lib.hid hp
    have hv : v = tkV t := hv
    subst hv
    unfold tkV
    clear hf hp HK
    go_wp2_with fail
    go_ret
    exact ⟨HF.out, _, rfl, HP.out, rfl⟩
end Go.Proofs.YtcfpfnoldgnloaaGreatDoor
