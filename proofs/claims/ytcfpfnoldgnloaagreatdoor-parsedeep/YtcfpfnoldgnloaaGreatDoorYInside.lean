/-
  inside: an expression in parentheses; the contracts of block, stmts, stmt, simple. Conditions: the parser lies in memory.
-/
import Derived.Test.YtcfpfnoldgnloaaGreatDoorParC
import Derived.Test.YtcfpfnoldgnloaaGreatDoorRowS
set_option linter.unusedVariables false
set_option linter.unusedSimpArgs false
namespace Go.Proofs.YtcfpfnoldgnloaaGreatDoor
open Go.RowKit
set_option maxRecDepth 100000
set_option maxHeartbeats 4000000

/-- New statements; a new statement. -/
abbrev ystV (x : St) (a t e : Value) : Value := .agg #[.int .i64 x.kind, .string (strOf x.name), a, t, e]
def StsH (B : Nat) (l : List St) (v : Value) (w : World) : Prop := StsAt (B ≤ ·) w l v
def StH (B : Nat) (x : St) (v : Value) (w : World) : Prop := ∃ a t e, v = ystV x a t e ∧ ExsAt (B ≤ ·) w x.args a ∧ StsAt (B ≤ ·) w x.thn t ∧ StsAt (B ≤ ·) w x.els e
def InH (B : Nat) (x : Ex) (v : Value) (w : World) : Prop := ExsAt (B ≤ ·) w [x] v
def blockP (f : Nat) (l : List Tk) : PR (List St) := match ywantP [123] l with
  | .error e => .error e
  | .ok r => stmtsP f [] r
def InsideC (f : Nat) : Prop := ∀ l w p tb, 4 * l.length ≤ f → Ps w p tb l → Calls Tryz.prog 202 #[.pointer (some ⟨p, 0, none⟩)] w (PEnd (InH w.heap.size) w p tb (insideP f l))
def SimpleC (f : Nat) : Prop := ∀ l w p tb, 4 * l.length ≤ f → Ps w p tb l → Calls Tryz.prog 204 #[.pointer (some ⟨p, 0, none⟩)] w (PEnd (StH w.heap.size) w p tb (simpleP f l))
def BlockC (f : Nat) : Prop := ∀ l w p tb, 4 * l.length ≤ f → Ps w p tb l → Calls Tryz.prog 203 #[.pointer (some ⟨p, 0, none⟩)] w (PEnd (StsH w.heap.size) w p tb (blockP f l))
def StmtC (f : Nat) : Prop := ∀ l w p tb, 4 * l.length + 1 ≤ f → Ps w p tb l → Calls Tryz.prog 165 #[.pointer (some ⟨p, 0, none⟩)] w (PEnd (StH w.heap.size) w p tb (stmtP f l))
def StmtsC (f : Nat) : Prop := ∀ l w p tb, 4 * l.length + 2 ≤ f → Ps w p tb l → Calls Tryz.prog 127 #[.pointer (some ⟨p, 0, none⟩)] w (PEnd (StsH w.heap.size) w p tb (stmtsP f [] l))
theorem StsAt.up {B B' : Nat} {w : World} {l : List St} {v : Value} (h : StsAt (B ≤ ·) w l v) (hb : B' ≤ B) : StsAt (B' ≤ ·) w l v := h.mono (fun b hx => Nat.le_trans hb hx)
theorem inside_of (f : Nat) : InsideC f := by
  intro l w p tb hl h
  have HPW := Lib.hid h.lt
  have HNE : Hid (w.heap.size ≠ p) := by show _ ≠ _; have := h.lt; omega
  have HF0 := Lib.hid (SFr.refl p w)
  have HP0 := Lib.hid h
  obtain ⟨R, hR⟩ : ∃ R, insideP f l = R := ⟨_, rfl⟩
  rw [hR]
  have HRR := Lib.hid hR
  clear hR
  have hE := (yex_all f).2.1
  have HE := Lib.hid hE
  have HL := Lib.hid hl
  clear hl hE
  clear h
  go_enter Tryz.func202, Tryz.ntmps202
  have hba : Below w.heap.size w (w.alloc (.cells #[.string ⟨#[40]⟩] 9)) := (Below.refl _ _).alloc (Nat.le_refl _) _
  have HF1 := Lib.hid (HF0.out.trans (SFr.of_below hba))
  have HP1 := Lib.hid (HP0.out.old hba)
  have HWN := Lib.hid (psWant_one p tb l [40] _ HP1.out w.heap.size 1 ((OwnAt.new w [.string ⟨#[40]⟩] 9).at 0 _ rfl))
  clear hba
  go_wp2_with fail
  refine (HWN.out).mono ?_
  intro e w2 he
  cases hA : ywantP [40] l with
  | error n =>
    rw [hA] at he
    obtain ⟨hf, rfl⟩ := he
    have HF := Lib.hid (HF1.out.trans hf)
    have e1 : insideP f l = .error n := by unfold insideP; rw [hA]
    have e2 := HRR.out.symm.trans e1
    subst e2
    clear e1 hf
    unfold lineV
    go_wp2_with fail
    exact ⟨rfl, HF.out, rfl⟩
  | ok r =>
    rw [hA] at he
    obtain ⟨hf, rfl, hp⟩ := he
    have HF2 := Lib.hid (HF1.out.trans hf)
    have HP2 := Lib.hid hp
    clear hf hp
    have HA2 := Lib.hid hA
    clear hA
    clear HWN
    have hlr := want_less HA2.out
    have HC : Hid (∀ w1, Ps w1 p tb r → _) := fun w1 h1 => HE.out r w1 p tb (by have := HL.out; omega) h1
    clear hlr
    go_wp2_with fail
    refine (HC.out _ HP2.out).mono ?_
    intro e w3 he
    cases hA : climbP f 1 r with
    | error n =>
      rw [hA] at he
      obtain ⟨hf, rfl⟩ := he
      have HF := Lib.hid (HF2.out.trans hf)
      have e1 : insideP f l = .error n := by unfold insideP; rw [HA2.out]; dsimp only; rw [hA]
      have e2 := HRR.out.symm.trans e1
      subst e2
      clear e1 hf
      unfold lineV
      go_wp2_with fail
      exact ⟨rfl, HF.out, rfl⟩
    | ok q =>
      obtain ⟨x, r2⟩ := q
      rw [hA] at he
      obtain ⟨hf, v, rfl, hp, hv⟩ := he
      obtain ⟨s3, rfl, hx, hn⟩ := hv
      obtain ⟨a1, a2, rfl⟩ := hx.shape
      have HX3 := Lib.hid (hx.up HF2.out.size)
      have HN := Lib.hid hn
      clear hx hn
      have HF3 := Lib.hid (HF2.out.trans hf)
      have HP3 := Lib.hid hp
      clear hf hp
      have HA3 := Lib.hid hA
      clear hA
      go_upto_region 3 with (fail)
      obtain ⟨W, hW⟩ : ∃ W, w3.alloc (.cells #[.int .i64 x.kind, .int .i64 x.op, .int .i64 x.n, .string (strOf x.name), .slice a1 x.args.length a2] 27) = W := ⟨_, rfl⟩
      rw [hW]
      have hba : Below w3.heap.size w3 W := hW ▸ (Below.refl _ _).alloc (Nat.le_refl _) _
      have HF4 := Lib.hid (HF3.out.trans (SFr.of_below hba))
      have HP4 := Lib.hid (HP3.out.old hba)
      have HX4 := Lib.hid (HX3.out.old hba)
      have HE4 := Lib.hid (hW ▸ OwnAt.new w3 [.int .i64 x.kind, .int .i64 x.op, .int .i64 x.n, .string (strOf x.name), .slice a1 x.args.length a2] 27)
      have HEP : Hid (w3.heap.size ≠ p) := by show _ ≠ _; have := HP3.out.lt; omega
      clear hba hW
      obtain ⟨w4, hWW⟩ : ∃ w4, w4 = W := ⟨_, rfl⟩
      subst hWW
      have hba : Below w4.heap.size w4 (w4.alloc (.cells #[.string ⟨#[41]⟩] 9)) := (Below.refl _ _).alloc (Nat.le_refl _) _
      have HF5 := Lib.hid (HF4.out.trans (SFr.of_below hba))
      have HP5 := Lib.hid (HP4.out.old hba)
      have HE5 := Lib.hid (HE4.out.old hba)
      have HX5 := Lib.hid (HX4.out.old hba)
      have HWN := Lib.hid (psWant_one p tb r2 [41] _ HP5.out w4.heap.size 1 ((OwnAt.new w4 [.string ⟨#[41]⟩] 9).at 0 _ rfl))
      clear hba
      go_wp2_with fail
      refine (HWN.out).mono ?_
      intro e w6 he
      cases hA : ywantP [41] r2 with
      | error n =>
        rw [hA] at he
        obtain ⟨hf, rfl⟩ := he
        have HF := Lib.hid (HF5.out.trans hf)
        have e1 : insideP f l = .error n := by unfold insideP; rw [HA2.out]; dsimp only; rw [HA3.out]; dsimp only; rw [hA]
        have e2 := HRR.out.symm.trans e1
        subst e2
        clear e1 hf
        unfold lineV
        go_wp2_with fail
        exact ⟨rfl, HF.out, rfl⟩
      | ok r3 =>
        rw [hA] at he
        obtain ⟨hf, rfl, hp⟩ := he
        have HF6 := Lib.hid (HF5.out.trans hf)
        have HP6 := Lib.hid hp
        have HE6 := Lib.hid (HE5.out.sfr hf HEP.out)
        have HX6 := Lib.hid (HX5.out.keep (hf.fresh (by have := HPW.out; omega)))
        clear hf hp
        have HA6 := Lib.hid hA
        clear hA
        clear HWN
        obtain ⟨⟨e0, e1, e2, e3, e4⟩, ef0, ef1, ef2, ef3, ef4⟩ := cells5 HE6.out
        have elt := HE6.out.lt
        have HB := Lib.hid (ex_box HX6.out HN.out HF6.out.size)
        have HF7 : Hid (SFr p w (w6.alloc (.cells #[.int .i64 x.kind, .int .i64 x.op, .int .i64 x.n, .string (strOf x.name), .slice a1 x.args.length a2] 27))) := HF6.out.trans (SFr.of_below ((Below.refl _ _).alloc (Nat.le_refl _) _))
        have HP7 := Lib.hid (HP6.out.alloc (.cells #[.int .i64 x.kind, .int .i64 x.op, .int .i64 x.n, .string (strOf x.name), .slice a1 x.args.length a2] 27))
        go_wp2_with fail
        have e1 : insideP f l = .ok (x, r3) := by unfold insideP; rw [HA2.out]; dsimp only; rw [HA3.out]; dsimp only; rw [HA6.out]
        have e2 := HRR.out.symm.trans e1
        subst e2
        go_ret
        exact ⟨HF7.out, _, rfl, HP7.out, HB.out⟩
theorem block_of (f : Nat) (hS : StmtsC f) : BlockC f := by
  intro l w p tb hl h
  have HPW := Lib.hid h.lt
  have HNE : Hid (w.heap.size ≠ p) := by show _ ≠ _; have := h.lt; omega
  have HF0 := Lib.hid (SFr.refl p w)
  have HP0 := Lib.hid h
  obtain ⟨R, hR⟩ : ∃ R, blockP f l = R := ⟨_, rfl⟩
  rw [hR]
  have HRR := Lib.hid hR
  clear hR
  have HS := Lib.hid hS
  have HL := Lib.hid hl
  clear hl hS
  clear h
  go_enter Tryz.func203, Tryz.ntmps203
  have hba : Below w.heap.size w (w.alloc (.cells #[.string ⟨#[123]⟩] 9)) := (Below.refl _ _).alloc (Nat.le_refl _) _
  have HF1 := Lib.hid (HF0.out.trans (SFr.of_below hba))
  have HP1 := Lib.hid (HP0.out.old hba)
  have HWN := Lib.hid (psWant_one p tb l [123] _ HP1.out w.heap.size 1 ((OwnAt.new w [.string ⟨#[123]⟩] 9).at 0 _ rfl))
  clear hba
  go_wp2_with fail
  refine (HWN.out).mono ?_
  intro e w2 he
  cases hA : ywantP [123] l with
  | error n =>
    rw [hA] at he
    obtain ⟨hf, rfl⟩ := he
    have HF := Lib.hid (HF1.out.trans hf)
    have e1 : blockP f l = .error n := by unfold blockP; rw [hA]
    have e2 := HRR.out.symm.trans e1
    subst e2
    clear e1 hf
    unfold lineV
    go_wp2_with fail
    exact ⟨rfl, HF.out, rfl⟩
  | ok r =>
    rw [hA] at he
    obtain ⟨hf, rfl, hp⟩ := he
    have HF2 := Lib.hid (HF1.out.trans hf)
    have HP2 := Lib.hid hp
    clear hf hp
    have HA2 := Lib.hid hA
    clear hA
    clear HWN
    have hlr := want_less HA2.out
    have HC : Hid (∀ w1, Ps w1 p tb r → _) := fun w1 h1 => HS.out r w1 p tb (by have := HL.out; omega) h1
    clear hlr
    go_wp2_with fail
    refine (HC.out _ HP2.out).mono ?_
    intro e w3 he
    cases hA : stmtsP f [] r with
    | error n =>
      rw [hA] at he
      obtain ⟨hf, rfl⟩ := he
      have HF := Lib.hid (HF2.out.trans hf)
      have e1 : blockP f l = .error n := by unfold blockP; rw [HA2.out]; exact hA
      have e2 := HRR.out.symm.trans e1
      subst e2
      clear e1 hf
      unfold lineV
      go_wp2_with fail
      exact ⟨rfl, HF.out, rfl⟩
    | ok q =>
      obtain ⟨x, r2⟩ := q
      rw [hA] at he
      obtain ⟨hf, v, rfl, hp, hv⟩ := he
      have hv : StsAt (w2.heap.size ≤ ·) w3 x v := hv
      obtain ⟨a1, a2, rfl⟩ := hv.shape
      have HX3 := Lib.hid (hv.up HF2.out.size)
      clear hv
      have HF3 := Lib.hid (HF2.out.trans hf)
      have HP3 := Lib.hid hp
      clear hf hp
      have HA3 := Lib.hid hA
      clear hA
      go_wp2_with fail
      have e1 : blockP f l = .ok (x, r2) := by unfold blockP; rw [HA2.out]; exact HA3.out
      have e2 := HRR.out.symm.trans e1
      subst e2
      go_ret
      exact ⟨HF3.out, _, rfl, HP3.out, HX3.out⟩
end Go.Proofs.YtcfpfnoldgnloaaGreatDoor
